/-
  applelofttop.TopKeyed returns true for every input of bulk at most 1048576, and its arguments read afterwards as they read before.
  The walk is TopKeyed_walk; here the arguments are opened and shut again.
-/
import Derived.Test.YtpkpgehiplhkpaaGreatTzFacts
import Derived.Test.YtpkpgehiplhkpaaGreatTzKyB
import Derived.Test.YtpkpgehiplhkpaaGreatTzOpC
import Derived.Test.YtpkpgehiplhkpaaGreatTzBas
import Derived.ChangeOld
import Derived.JoinedCond
import Derived.Deep.CondSized
namespace Go.Proofs.YtpkpgehiplhkpaaGreat.topKeyed
open Go.ChangeShapes Go.WideShapes Go.ChangeAt Go.RowKit
set_option linter.unusedVariables false

theorem own : ownKnob Tryz.prog.godebug = none := by kernel_rfl
theorem laidOut : laidOutB Tryz.prog = true := prog_laidOut

set_option maxRecDepth 100000 in
theorem contract (H : Type) (enc : TypeId × Value → H) (W : World) (base : Nat) (args : Array Value) (ds gs : List (DataW H)) (before : List MemPlace)
    (hval0 : ∀ (j : Nat) t v, Tryz.f10.params[j]? = some t → args[j]? = some v → Value.okWide Tryz.prog W .any base t v)
    (hW : DataW.Whole enc Tryz.prog Tryz.f10.params.toList Rows.topKeyedSpec.vars false W args.toList ds gs before)
    (hsz0 : (DataW.weightsEach Tryz.prog (Tryz.f10.params.toList ++ Rows.topKeyedSpec.plain.varTypes Tryz.prog) (ds ++ gs)).all (· ≤ reachBytes) = true) (hk : Rows.uptoSmall H (ds ++ gs) = true) :
    Calls Tryz.prog 10 args W fun e W' => ∃ v, e = .returned v ∧ Rows.topKeyedSpec.post enc Tryz.prog Tryz.f10 false true false false W args v W' := by
  have hval : ∀ (j : Nat) t v, Tryz.f10.params[j]? = some t → args[j]? = some v → Value.okWide Tryz.prog W .any base t v := hval0
  have hW' := hW
  obtain ⟨p, q, hA0, hV, rfl, hfz, hnd⟩ := hW
  have hA : DataW.TrodAll enc Tryz.prog W 0 (fun _ => true) true Tryz.f10.params.toList args.toList ds p := hA0
  rw [Tryz.params10] at hA hval
  obtain ⟨v0, vs0, d0, ds0, p0, q0, hargs, rfl, rfl, h0, r0⟩ := trodAll_cons hA
  obtain ⟨v1, vs1, d1, ds1, p1, q1, rfl, rfl, rfl, h1, r1⟩ := trodAll_cons r0
  obtain ⟨rfl, rfl, rfl⟩ := trodAll_nil r1
  obtain rfl : args = #[v0, v1] := by cases args; simp_all
  obtain ⟨rfl, rfl⟩ := trodVars_none hV
  have hsz : (DataW.weightsEach Tryz.prog [53, 22] [d0, d1]).all (· ≤ reachBytes) = true := by
    have hz := hsz0
    rw [Tryz.params10] at hz
    exact hz
  have k0 := h0
  have lt0 : ∀ x ∈ p0, x.block < W.heap.size := by obtain ⟨m, hm⟩ := k0; exact DataW.trod_lt m _ _ _ hm
  obtain ⟨a0, e0⟩ := open_arg (opens_rawT Tryz.underlying53 ⟨rfl, rfl, rfl, rfl⟩ (by kernel_rfl) ⟨by kernel_rfl, by kernel_rfl, by kernel_rfl, by kernel_rfl⟩ (opens_i Tryz.underlying3) (opens_i Tryz.underlying3) (opens_i Tryz.underlying3) (opens_string Tryz.underlying9)) h0 (sized_arg hsz (j := 0) (t := 53) (d := d0) rfl rfl)
  obtain ⟨z0, rfl, -⟩ := okWide_struct Tryz.underlying53 (hval 0 53 v0 rfl rfl)
  have e0 : VRawT W z0.toList a0 := e0
  have k1 := h1
  have lt1 : ∀ x ∈ p1, x.block < W.heap.size := by obtain ⟨m, hm⟩ := k1; exact DataW.trod_lt m _ _ _ hm
  obtain ⟨a1, e1⟩ := open_arg (opens_slice Tryz.underlying22 (by kernel_rfl) (by kernel_rfl) (by decide) (opens_rawT Tryz.underlying53 ⟨rfl, rfl, rfl, rfl⟩ (by kernel_rfl) ⟨by kernel_rfl, by kernel_rfl, by kernel_rfl, by kernel_rfl⟩ (opens_i Tryz.underlying3) (opens_i Tryz.underlying3) (opens_i Tryz.underlying3) (opens_string Tryz.underlying9)) lies_rawT) h1 (sized_arg hsz (j := 1) (t := 22) (d := d1) rfl rfl)
  rw [cells_slice Tryz.underlying22 (hval 1 22 v1 rfl rfl)] at e1
  obtain ⟨y1, ey1, e1⟩ := e1
  simp only [List.cons.injEq, and_true] at ey1
  subst ey1
  refine (TopKeyed_walk W z0 a0 v1 a1 e0 e1 (bulk_raws Tryz.underlying22 Tryz.underlying53 rfl (by kernel_rfl) (by kernel_rfl) Tryz.underlying9 e1 k1 hk (by simp))).mono fun e W' ⟨he, bel⟩ => ?_
  subst he
  exact ⟨_, rfl, _, _, _, [], _, [], hW', trodAll_mk1 (shut_bool Tryz.underlying4 _), (trodAll_cons_mk (Below.trod laidOut (by kernel_rfl) (of_decide_eq_true (by kernel_rfl)) k0 bel lt0) (trodAll_cons_mk (Below.trod laidOut (by kernel_rfl) (of_decide_eq_true (by kernel_rfl)) k1 bel lt1) trodAll_mk0)), rfl, bel.frame _, fun h => by cases h⟩

set_option maxRecDepth 100000 in
theorem lifted (os : Os) (started : os.Started) (H : Type) (enc : TypeId × Value → H) (F : Stop.Interp) :
    ReturnsInHanded {} Tryz.checked os 10 .any ((Rows.OpenSpec.upto Rows.topKeyedSpec).pre6 enc Tryz.prog Tryz.f10 Rows.topKeyedUptoRow.domain false) (((Rows.OpenSpec.upto Rows.topKeyedSpec).at F).post enc Tryz.prog Tryz.f10 false true false false) := by
  refine returnsInHanded_of_cond_sized (C := Tryz.checked) (s := Rows.OpenSpec.upto Rows.topKeyedSpec) (k := Rows.uptoSmall) rfl own started (by kernel_rfl) Tryz.func10
    (OpenSpec.witness (enc := enc) (C := Tryz.checked) (s := Rows.OpenSpec.upto Rows.topKeyedSpec) (k := Rows.uptoSmall) rfl false ⟨#[], #[.agg #[.int .i64 0, .int .i64 0, .int .i64 0, .string ⟨#[]⟩], .slice none 0 0], []⟩ 8 (by kernel_rfl) (by kernel_rfl) (by kernel_rfl)
      (x := ([.agg [.lit (.int .i64 0), .lit (.int .i64 0), .lit (.int .i64 0), .lit (.string [])], .nil], [], [])) (by kernel_rfl) rfl (by kernel_rfl)) ?_
  intro W base args ds gs before hval hW _ hk hsz _
  exact contract H enc W base args ds gs before hval hW hsz hk

theorem named : Tryz.pinned.checked.prog.funcNamed Rows.topKeyedUptoRow.func = some 10 := by kernel_rfl
theorem inst : Tryz.f10.isInstance Tryz.pinned.checked.prog Rows.topKeyedUptoRow.origin Rows.topKeyedUptoRow.targs := of_decide_eq_true (by kernel_rfl)
theorem wrap : Tryz.f10.isWrapper Tryz.pinned.checked.prog Rows.topKeyedUptoRow.wrapper Rows.topKeyedUptoRow.mainSum := by
  unfold Func.isWrapper; rw [if_neg (by decide +kernel)]; exact ⟨rfl, rfl⟩
theorem inPlace : (Rows.topKeyedUptoRow.inPlace == Tryz.prog.inPlace 10) = true := by kernel_rfl
theorem unfollowed : (Rows.topKeyedUptoRow.unfollowed == Tryz.prog.unfollowed 10) = true := by kernel_rfl
theorem recurses : (Rows.topKeyedUptoRow.recurses == Tryz.prog.recurses 10) = true := by kernel_rfl
theorem varsNamed : (Rows.topKeyedUptoRow.named == Tryz.prog.varsNamed 10) = true := by kernel_rfl
theorem closed : joinedFacts Tryz.prog 10 Tryz.f10 (Rows.OpenSpec.upto Rows.topKeyedSpec).bare Rows.topKeyedUptoRow = true :=
  joined (by kernel_rfl) (by kernel_rfl) (by kernel_rfl) (by kernel_rfl) (by kernel_rfl) inPlace unfollowed recurses varsNamed (by kernel_rfl) (by kernel_rfl) (by kernel_rfl) (by kernel_rfl) (by kernel_rfl) (by kernel_rfl) (by kernel_rfl) (by kernel_rfl) (by kernel_rfl)
    rfl (by kernel_rfl) rfl rfl (by kernel_rfl) (by kernel_rfl) (by kernel_rfl) (by kernel_rfl)

theorem over : Rows.topKeyedUptoRow.holds Tryz.pinned (Rows.OpenSpec.upto Rows.topKeyedSpec) :=
  OpenClaim.holds_of_cond 10 Tryz.f10 rfl rfl rfl rfl rfl rfl rfl ⟨rfl, rfl, rfl, rfl, rfl⟩ rfl rfl rfl rfl rfl named Tryz.func10 closed inst wrap
    (fun os started H enc _ F => lifted os started H enc F)

theorem proved : Rows.TopKeyedUptoSaid := over
end Go.Proofs.YtpkpgehiplhkpaaGreat.topKeyed
