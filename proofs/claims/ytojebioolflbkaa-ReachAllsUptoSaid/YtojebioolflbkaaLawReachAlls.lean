/-
  appleloftlaw.ReachAlls returns true for every input of bulk at most 1048576, and its arguments read afterwards as they read before.
  The walk is ReachAlls_walk; here the arguments are opened and shut again.
-/
import Derived.Test.YtojebioolflbkaaFacts
import Derived.Test.YtojebioolflbkaaRtW
import Derived.Test.YtojebioolflbkaaBulkS
import Derived.Test.YtojebioolflbkaaBas
import Derived.ChangeOld
import Derived.JoinedCond
import Derived.Deep.CondSized
namespace Go.Proofs.Ytojebioolflbkaa.reachAlls
open Go.ChangeShapes Go.WideShapes Go.ChangeAt Go.RowKit
set_option linter.unusedVariables false

theorem own : ownKnob Try.prog.godebug = none := by kernel_rfl
theorem laidOut : laidOutB Try.prog = true := prog_laidOut

set_option maxRecDepth 100000 in
theorem contract (H : Type) (enc : TypeId × Value → H) (W : World) (base : Nat) (args : Array Value) (ds gs : List (DataW H)) (before : List MemPlace)
    (hval0 : ∀ (j : Nat) t v, Try.f5.params[j]? = some t → args[j]? = some v → Value.okWide Try.prog W .any base t v)
    (hW : DataW.Whole enc Try.prog Try.f5.params.toList Rows.reachAllsSpec.vars false W args.toList ds gs before)
    (hsz0 : (DataW.weightsEach Try.prog (Try.f5.params.toList ++ Rows.reachAllsSpec.plain.varTypes Try.prog) (ds ++ gs)).all (· ≤ reachBytes) = true) (hk : Rows.uptoSmall H (ds ++ gs) = true) :
    Calls Try.prog 5 args W fun e W' => ∃ v, e = .returned v ∧ Rows.reachAllsSpec.post enc Try.prog Try.f5 false true false false W args v W' := by
  have hval : ∀ (j : Nat) t v, Try.f5.params[j]? = some t → args[j]? = some v → Value.okWide Try.prog W .any base t v := hval0
  have hW' := hW
  obtain ⟨p, q, hA0, hV, rfl, hfz, hnd⟩ := hW
  have hA : DataW.TrodAll enc Try.prog W 0 (fun _ => true) true Try.f5.params.toList args.toList ds p := hA0
  rw [Try.params5] at hA hval
  obtain ⟨v0, vs0, d0, ds0, p0, q0, hargs, rfl, rfl, h0, r0⟩ := trodAll_cons hA
  obtain ⟨rfl, rfl, rfl⟩ := trodAll_nil r0
  obtain rfl : args = #[v0] := by cases args; simp_all
  obtain ⟨rfl, rfl⟩ := trodVars_none hV
  have hsz : (DataW.weightsEach Try.prog [39] [d0]).all (· ≤ reachBytes) = true := by
    have hz := hsz0
    rw [Try.params5] at hz
    exact hz
  have k0 := h0
  have lt0 : ∀ x ∈ p0, x.block < W.heap.size := by obtain ⟨m, hm⟩ := k0; exact DataW.trod_lt m _ _ _ hm
  obtain ⟨a0, e0⟩ := open_arg (opens_store Try.underlying39 ⟨rfl, rfl, rfl, rfl⟩ (by kernel_rfl) ⟨by kernel_rfl, by kernel_rfl, by kernel_rfl, by kernel_rfl⟩ (opens_slice Try.underlying36 (by kernel_rfl) (by kernel_rfl) (by decide) (opens_blob Try.underlying86 ⟨rfl, rfl, rfl, rfl⟩ (by kernel_rfl) ⟨by kernel_rfl, by kernel_rfl, by kernel_rfl, by kernel_rfl⟩ (opens_string Try.underlying9) (opens_slice Try.underlying28 (by kernel_rfl) (by kernel_rfl) (by decide) (opens_u8 Try.underlying5) lies_u8) (opens_i Try.underlying3) (opens_bool Try.underlying4)) lies_blob) (opens_slice Try.underlying37 (by kernel_rfl) (by kernel_rfl) (by decide) (opens_entry Try.underlying82 ⟨rfl, rfl, rfl, rfl⟩ (by kernel_rfl) ⟨by kernel_rfl, by kernel_rfl, by kernel_rfl, by kernel_rfl⟩ (opens_string Try.underlying9) (opens_slice Try.underlying29 (by kernel_rfl) (by kernel_rfl) (by decide) (opens_part Try.underlying84 ⟨rfl, Try.underlying9⟩ ⟨rfl, Try.underlying9⟩ ⟨rfl, Try.underlying3⟩ (by kernel_rfl) (by kernel_rfl) (by kernel_rfl) (by kernel_rfl)) lies_part) (opens_i Try.underlying3) (opens_i Try.underlying3)) lies_entry) (opens_i Try.underlying3) (opens_i Try.underlying3)) h0 (sized_arg hsz (j := 0) (t := 39) (d := d0) rfl rfl)
  obtain ⟨z0, rfl, -⟩ := okWide_struct Try.underlying39 (hval 0 39 v0 rfl rfl)
  have e0 : VStore W z0.toList a0 := e0
  refine (ReachAlls_walk W z0 a0 e0 (Nat.le_trans (bulk_store Try.underlying39 ⟨rfl, rfl⟩ ⟨by kernel_rfl, by kernel_rfl⟩ Try.underlying36 Try.underlying37 Try.underlying82 rfl (by kernel_rfl) (by kernel_rfl) Try.underlying29 e0 k0) (Nat.le_trans (bulk_small hk (by simp)) (by decide)))).mono fun e W' ⟨he, bel⟩ => ?_
  subst he
  exact ⟨_, rfl, _, _, _, [], _, [], hW', trodAll_mk1 (shut_bool Try.underlying4 _), (trodAll_cons_mk (Below.trod laidOut (by kernel_rfl) (of_decide_eq_true (by kernel_rfl)) k0 bel lt0) trodAll_mk0), rfl, bel.frame _, fun h => by cases h⟩

set_option maxRecDepth 100000 in
theorem lifted (os : Os) (started : os.Started) (H : Type) (enc : TypeId × Value → H) (F : Stop.Interp) :
    ReturnsInHanded {} Try.checked os 5 .any ((Rows.OpenSpec.upto Rows.reachAllsSpec).pre6 enc Try.prog Try.f5 Rows.reachAllsUptoRow.domain false) (((Rows.OpenSpec.upto Rows.reachAllsSpec).at F).post enc Try.prog Try.f5 false true false false) := by
  refine returnsInHanded_of_cond_sized (C := Try.checked) (s := Rows.OpenSpec.upto Rows.reachAllsSpec) (k := Rows.uptoSmall) rfl own started (by kernel_rfl) Try.func5
    (OpenSpec.witness (enc := enc) (C := Try.checked) (s := Rows.OpenSpec.upto Rows.reachAllsSpec) (k := Rows.uptoSmall) rfl false ⟨#[], #[.agg #[.slice none 0 0, .slice none 0 0, .int .i64 0, .int .i64 0]], []⟩ 8 (by kernel_rfl) (by kernel_rfl) (by kernel_rfl)
      (x := ([.agg [.nil, .nil, .lit (.int .i64 0), .lit (.int .i64 0)]], [], [])) (by kernel_rfl) rfl (by kernel_rfl)) ?_
  intro W base args ds gs before hval hW _ hk hsz _
  exact contract H enc W base args ds gs before hval hW hsz hk

theorem named : Try.pinned.checked.prog.funcNamed Rows.reachAllsUptoRow.func = some 5 := by kernel_rfl
theorem inst : Try.f5.isInstance Try.pinned.checked.prog Rows.reachAllsUptoRow.origin Rows.reachAllsUptoRow.targs := of_decide_eq_true (by kernel_rfl)
theorem wrap : Try.f5.isWrapper Try.pinned.checked.prog Rows.reachAllsUptoRow.wrapper Rows.reachAllsUptoRow.mainSum := by
  unfold Func.isWrapper; rw [if_neg (by decide +kernel)]; exact ⟨rfl, rfl⟩
theorem inPlace : (Rows.reachAllsUptoRow.inPlace == Try.prog.inPlace 5) = true := by kernel_rfl
theorem unfollowed : (Rows.reachAllsUptoRow.unfollowed == Try.prog.unfollowed 5) = true := by kernel_rfl
theorem recurses : (Rows.reachAllsUptoRow.recurses == Try.prog.recurses 5) = true := by kernel_rfl
theorem varsNamed : (Rows.reachAllsUptoRow.named == Try.prog.varsNamed 5) = true := by kernel_rfl
theorem closed : joinedFacts Try.prog 5 Try.f5 (Rows.OpenSpec.upto Rows.reachAllsSpec).bare Rows.reachAllsUptoRow = true :=
  joined (by kernel_rfl) (by kernel_rfl) (by kernel_rfl) (by kernel_rfl) (by kernel_rfl) inPlace unfollowed recurses varsNamed (by kernel_rfl) (by kernel_rfl) (by kernel_rfl) (by kernel_rfl) (by kernel_rfl) (by kernel_rfl) (by kernel_rfl) (by kernel_rfl) (by kernel_rfl)
    rfl (by kernel_rfl) rfl rfl (by kernel_rfl) (by kernel_rfl) (by kernel_rfl) (by kernel_rfl)

theorem over : Rows.reachAllsUptoRow.holds Try.pinned (Rows.OpenSpec.upto Rows.reachAllsSpec) :=
  OpenClaim.holds_of_cond 5 Try.f5 rfl rfl rfl rfl rfl rfl rfl ⟨rfl, rfl, rfl, rfl, rfl⟩ rfl rfl rfl rfl rfl named Try.func5 closed inst wrap
    (fun os started H enc _ F => lifted os started H enc F)

theorem proved : Rows.ReachAllsUptoSaid := over
end Go.Proofs.Ytojebioolflbkaa.reachAlls
