/-
  appleloftlaw.StoreChecks returns true for every input, and its arguments read afterwards as they read before.
  The walk is StoreChecks_walk; here the arguments are opened and shut again.
-/
import Derived.Test.YtaojfpgbpakmpaaFacts
import Derived.Test.YtaojfpgbpakmpaaPkcT
import Derived.Test.YtaojfpgbpakmpaaOpen
import Derived.ChangeOld
namespace Go.Proofs.Ytaojfpgbpakmpaa.storeChecks
open Go.ChangeShapes Go.WideShapes Go.ChangeAt Go.RowKit
set_option linter.unusedVariables false

theorem own : ownKnob Try.prog.godebug = none := by kernel_rfl
theorem laidOut : laidOutB Try.prog = true := prog_laidOut

set_option maxRecDepth 100000 in
theorem contract (H : Type) (enc : TypeId × Value → H) (W : World) (base : Nat) (args : Array Value) (ds gs : List (DataW H)) (before : List MemPlace)
    (hval0 : ∀ (j : Nat) t v, Try.f16.params[j]? = some t → args[j]? = some v → Value.okWide Try.prog W .any base t v)
    (hW : DataW.Whole enc Try.prog Try.f16.params.toList Rows.storeChecksSpec.vars false W args.toList ds gs before)
    (hsz0 : (DataW.weightsEach Try.prog (Try.f16.params.toList ++ Rows.storeChecksSpec.plain.varTypes Try.prog) (ds ++ gs)).all (· ≤ reachBytes) = true) :
    Calls Try.prog 16 args W fun e W' => ∃ v, e = .returned v ∧ Rows.storeChecksSpec.post enc Try.prog Try.f16 false true false false W args v W' := by
  have hval : ∀ (j : Nat) t v, Try.f16.params[j]? = some t → args[j]? = some v → Value.okWide Try.prog W .any base t v := hval0
  have hW' := hW
  obtain ⟨p, q, hA0, hV, rfl, hfz, hnd⟩ := hW
  have hA : DataW.TrodAll enc Try.prog W 0 (fun _ => true) true Try.f16.params.toList args.toList ds p := hA0
  rw [Try.params16] at hA hval
  obtain ⟨v0, vs0, d0, ds0, p0, q0, hargs, rfl, rfl, h0, r0⟩ := trodAll_cons hA
  obtain ⟨rfl, rfl, rfl⟩ := trodAll_nil r0
  obtain rfl : args = #[v0] := by cases args; simp_all
  obtain ⟨rfl, rfl⟩ := trodVars_none hV
  have hsz : (DataW.weightsEach Try.prog [88] [d0]).all (· ≤ reachBytes) = true := by
    have hz := hsz0
    rw [Try.params16] at hz
    exact hz
  have k0 := h0
  have lt0 : ∀ x ∈ p0, x.block < W.heap.size := by obtain ⟨m, hm⟩ := k0; exact DataW.trod_lt m _ _ _ hm
  obtain ⟨a0, e0⟩ := open_arg (opens_store Try.underlying88 ⟨rfl, rfl, rfl, rfl⟩ (by kernel_rfl) ⟨by kernel_rfl, by kernel_rfl, by kernel_rfl, by kernel_rfl⟩ (opens_slice Try.underlying69 (by kernel_rfl) (by kernel_rfl) (by decide) (opens_blob Try.underlying60 ⟨rfl, rfl, rfl, rfl⟩ (by kernel_rfl) ⟨by kernel_rfl, by kernel_rfl, by kernel_rfl, by kernel_rfl⟩ (opens_string Try.underlying9) (opens_slice Try.underlying38 (by kernel_rfl) (by kernel_rfl) (by decide) (opens_u8 Try.underlying5) lies_u8) (opens_i Try.underlying3) (opens_bool Try.underlying4)) lies_blob) (opens_slice Try.underlying47 (by kernel_rfl) (by kernel_rfl) (by decide) (opens_entry Try.underlying78 ⟨rfl, rfl, rfl, rfl⟩ (by kernel_rfl) ⟨by kernel_rfl, by kernel_rfl, by kernel_rfl, by kernel_rfl⟩ (opens_string Try.underlying9) (opens_slice Try.underlying39 (by kernel_rfl) (by kernel_rfl) (by decide) (opens_part Try.underlying143 ⟨rfl, Try.underlying9⟩ ⟨rfl, Try.underlying9⟩ ⟨rfl, Try.underlying3⟩ (by kernel_rfl) (by kernel_rfl) (by kernel_rfl) (by kernel_rfl)) lies_part) (opens_i Try.underlying3) (opens_i Try.underlying3)) lies_entry) (opens_i Try.underlying3) (opens_i Try.underlying3)) h0 (sized_arg hsz (j := 0) (t := 88) (d := d0) rfl rfl)
  obtain ⟨z0, rfl, -⟩ := okWide_struct Try.underlying88 (hval 0 88 v0 rfl rfl)
  have e0 : VStore W z0.toList a0 := e0
  refine (StoreChecks_walk W z0 a0 e0).mono fun e W' ⟨he, bel⟩ => ?_
  subst he
  exact ⟨_, rfl, _, _, _, [], _, [], hW', trodAll_mk1 (shut_bool Try.underlying4 _), (trodAll_cons_mk (Below.trod laidOut (by kernel_rfl) (of_decide_eq_true (by kernel_rfl)) k0 bel lt0) trodAll_mk0), rfl, bel.frame _, fun h => by cases h⟩

set_option maxRecDepth 100000 in
theorem lifted (os : Os) (started : os.Started) (H : Type) (enc : TypeId × Value → H) :
    ReturnsInHanded {} Try.checked os 16 .any (Rows.storeChecksSpec.pre6 enc Try.prog Try.f16 Rows.storeChecksRow.domain false) (Rows.storeChecksSpec.post enc Try.prog Try.f16 false true false false) := by
  refine returnsInHanded_of_change_sized (C := Try.checked) own started (by kernel_rfl) Try.func16
    (ChangeSpec.witness6 (enc := enc) (C := Try.checked) false ⟨#[], #[.agg #[.slice none 0 0, .slice none 0 0, .int .i64 0, .int .i64 0]], []⟩ 8 (by kernel_rfl) (by kernel_rfl) (by kernel_rfl) (by kernel_rfl)) ?_
  intro W base args ds gs before hval hW _ hsz _
  exact contract H enc W base args ds gs before hval hW hsz

theorem named : Try.pinned.checked.prog.funcNamed Rows.storeChecksRow.func = some 16 := by kernel_rfl
theorem inst : Try.f16.isInstance Try.pinned.checked.prog Rows.storeChecksRow.origin Rows.storeChecksRow.targs := of_decide_eq_true (by kernel_rfl)
theorem wrap : Try.f16.isWrapper Try.pinned.checked.prog Rows.storeChecksRow.wrapper Rows.storeChecksRow.mainSum := by
  unfold Func.isWrapper; rw [if_neg (by decide +kernel)]; exact ⟨rfl, rfl⟩
theorem inPlace : (Rows.storeChecksRow.inPlace == Try.prog.inPlace 16) = true := by kernel_rfl
theorem unfollowed : (Rows.storeChecksRow.unfollowed == Try.prog.unfollowed 16) = true := by kernel_rfl
theorem recurses : (Rows.storeChecksRow.recurses == Try.prog.recurses 16) = true := by kernel_rfl
theorem varsNamed : (Rows.storeChecksRow.named == Try.prog.varsNamed 16) = true := by kernel_rfl
theorem closed : joinedFacts Try.prog 16 Try.f16 Rows.storeChecksSpec Rows.storeChecksRow = true :=
  joined (by kernel_rfl) (by kernel_rfl) (by kernel_rfl) (by kernel_rfl) (by kernel_rfl) inPlace unfollowed recurses varsNamed (by kernel_rfl) (by kernel_rfl) (by kernel_rfl) (by kernel_rfl) (by kernel_rfl) (by kernel_rfl) (by kernel_rfl) (by kernel_rfl) (by kernel_rfl)
    rfl (by kernel_rfl) rfl rfl (by kernel_rfl) (by kernel_rfl) (by kernel_rfl) (by kernel_rfl)

theorem over : Rows.storeChecksRow.holds Try.pinned (OpenSpec.ofChange Rows.storeChecksSpec) :=
  OpenClaim.holds_of_wide 16 Try.f16 rfl rfl rfl rfl rfl rfl rfl ⟨rfl, rfl, rfl, rfl, rfl⟩ rfl rfl rfl rfl rfl named Try.func16 closed inst wrap
    (fun os started H enc _ => lifted os started H enc)

theorem proved : Rows.StoreChecksSaid := over
end Go.Proofs.Ytaojfpgbpakmpaa.storeChecks
