/-
  appleloftlaw.EvictClears returns true for every input, and its arguments read afterwards as they read before.
  The walk is EvictClears_walk; here the arguments are opened and shut again.
-/
import Derived.Test.YtkbijjglodnfbaaGreatQbFacts
import Derived.Test.YtkbijjglodnfbaaGreatQbEvw
import Derived.Test.YtkbijjglodnfbaaGreatQbBas
import Derived.ChangeOld
namespace Go.Proofs.YtkbijjglodnfbaaGreat.evictClears
open Go.ChangeShapes Go.WideShapes Go.ChangeAt Go.RowKit
set_option linter.unusedVariables false

theorem own : ownKnob Tryz.prog.godebug = none := by kernel_rfl
theorem laidOut : laidOutB Tryz.prog = true := prog_laidOut

set_option maxRecDepth 100000 in
theorem contract (H : Type) (enc : TypeId × Value → H) (W : World) (base : Nat) (args : Array Value) (ds gs : List (DataW H)) (before : List MemPlace)
    (hval0 : ∀ (j : Nat) t v, Tryz.f4.params[j]? = some t → args[j]? = some v → Value.okWide Tryz.prog W .any base t v)
    (hW : DataW.Whole enc Tryz.prog Tryz.f4.params.toList Rows.evictClearsSpec.vars false W args.toList ds gs before)
    (hsz0 : (DataW.weightsEach Tryz.prog (Tryz.f4.params.toList ++ Rows.evictClearsSpec.plain.varTypes Tryz.prog) (ds ++ gs)).all (· ≤ reachBytes) = true) :
    Calls Tryz.prog 4 args W fun e W' => ∃ v, e = .returned v ∧ Rows.evictClearsSpec.post enc Tryz.prog Tryz.f4 false true false false W args v W' := by
  have hval : ∀ (j : Nat) t v, Tryz.f4.params[j]? = some t → args[j]? = some v → Value.okWide Tryz.prog W .any base t v := hval0
  have hW' := hW
  obtain ⟨p, q, hA0, hV, rfl, hfz, hnd⟩ := hW
  have hA : DataW.TrodAll enc Tryz.prog W 0 (fun _ => true) true Tryz.f4.params.toList args.toList ds p := hA0
  rw [Tryz.params4] at hA hval
  obtain ⟨v0, vs0, d0, ds0, p0, q0, hargs, rfl, rfl, h0, r0⟩ := trodAll_cons hA
  obtain ⟨rfl, rfl, rfl⟩ := trodAll_nil r0
  obtain rfl : args = #[v0] := by cases args; simp_all
  obtain ⟨rfl, rfl⟩ := trodVars_none hV
  have hsz : (DataW.weightsEach Tryz.prog [25] [d0]).all (· ≤ reachBytes) = true := by
    have hz := hsz0
    rw [Tryz.params4] at hz
    exact hz
  have k0 := h0
  have lt0 : ∀ x ∈ p0, x.block < W.heap.size := by obtain ⟨m, hm⟩ := k0; exact DataW.trod_lt m _ _ _ hm
  obtain ⟨a0, e0⟩ := open_arg (opens_store Tryz.underlying25 ⟨rfl, rfl, rfl, rfl⟩ (by kernel_rfl) ⟨by kernel_rfl, by kernel_rfl, by kernel_rfl, by kernel_rfl⟩ (opens_slice Tryz.underlying22 (by kernel_rfl) (by kernel_rfl) (by decide) (opens_blob Tryz.underlying80 ⟨rfl, rfl, rfl, rfl⟩ (by kernel_rfl) ⟨by kernel_rfl, by kernel_rfl, by kernel_rfl, by kernel_rfl⟩ (opens_string Tryz.underlying9) (opens_slice Tryz.underlying78 (by kernel_rfl) (by kernel_rfl) (by decide) (opens_u8 Tryz.underlying5) lies_u8) (opens_i Tryz.underlying3) (opens_bool Tryz.underlying4)) lies_blob) (opens_slice Tryz.underlying23 (by kernel_rfl) (by kernel_rfl) (by decide) (opens_entry Tryz.underlying91 ⟨rfl, rfl, rfl, rfl⟩ (by kernel_rfl) ⟨by kernel_rfl, by kernel_rfl, by kernel_rfl, by kernel_rfl⟩ (opens_string Tryz.underlying9) (opens_slice Tryz.underlying48 (by kernel_rfl) (by kernel_rfl) (by decide) (opens_part Tryz.underlying107 ⟨rfl, Tryz.underlying9⟩ ⟨rfl, Tryz.underlying9⟩ ⟨rfl, Tryz.underlying3⟩ (by kernel_rfl) (by kernel_rfl) (by kernel_rfl) (by kernel_rfl)) lies_part) (opens_i Tryz.underlying3) (opens_i Tryz.underlying3)) lies_entry) (opens_i Tryz.underlying3) (opens_i Tryz.underlying3)) h0 (sized_arg hsz (j := 0) (t := 25) (d := d0) rfl rfl)
  obtain ⟨z0, rfl, -⟩ := okWide_struct Tryz.underlying25 (hval 0 25 v0 rfl rfl)
  have e0 : VStore W z0.toList a0 := e0
  refine (EvictClears_walk W z0 a0 e0).mono fun e W' ⟨he, bel⟩ => ?_
  subst he
  exact ⟨_, rfl, _, _, _, [], _, [], hW', trodAll_mk1 (shut_bool Tryz.underlying4 _), (trodAll_cons_mk (Below.trod laidOut (by kernel_rfl) (of_decide_eq_true (by kernel_rfl)) k0 bel lt0) trodAll_mk0), rfl, bel.frame _, fun h => by cases h⟩

set_option maxRecDepth 100000 in
theorem lifted (os : Os) (started : os.Started) (H : Type) (enc : TypeId × Value → H) :
    ReturnsInHanded {} Tryz.checked os 4 .any (Rows.evictClearsSpec.pre6 enc Tryz.prog Tryz.f4 Rows.evictClearsRow.domain false) (Rows.evictClearsSpec.post enc Tryz.prog Tryz.f4 false true false false) := by
  refine returnsInHanded_of_change_sized (C := Tryz.checked) own started (by kernel_rfl) Tryz.func4
    (ChangeSpec.witness6 (enc := enc) (C := Tryz.checked) false ⟨#[], #[.agg #[.slice none 0 0, .slice none 0 0, .int .i64 0, .int .i64 0]], []⟩ 8 (by kernel_rfl) (by kernel_rfl) (by kernel_rfl) (by kernel_rfl)) ?_
  intro W base args ds gs before hval hW _ hsz _
  exact contract H enc W base args ds gs before hval hW hsz

theorem named : Tryz.pinned.checked.prog.funcNamed Rows.evictClearsRow.func = some 4 := by kernel_rfl
theorem inst : Tryz.f4.isInstance Tryz.pinned.checked.prog Rows.evictClearsRow.origin Rows.evictClearsRow.targs := of_decide_eq_true (by kernel_rfl)
theorem wrap : Tryz.f4.isWrapper Tryz.pinned.checked.prog Rows.evictClearsRow.wrapper Rows.evictClearsRow.mainSum := by
  unfold Func.isWrapper; rw [if_neg (by decide +kernel)]; exact ⟨rfl, rfl⟩
theorem inPlace : (Rows.evictClearsRow.inPlace == Tryz.prog.inPlace 4) = true := by kernel_rfl
theorem unfollowed : (Rows.evictClearsRow.unfollowed == Tryz.prog.unfollowed 4) = true := by kernel_rfl
theorem recurses : (Rows.evictClearsRow.recurses == Tryz.prog.recurses 4) = true := by kernel_rfl
theorem varsNamed : (Rows.evictClearsRow.named == Tryz.prog.varsNamed 4) = true := by kernel_rfl
theorem closed : joinedFacts Tryz.prog 4 Tryz.f4 Rows.evictClearsSpec Rows.evictClearsRow = true :=
  joined (by kernel_rfl) (by kernel_rfl) (by kernel_rfl) (by kernel_rfl) (by kernel_rfl) inPlace unfollowed recurses varsNamed (by kernel_rfl) (by kernel_rfl) (by kernel_rfl) (by kernel_rfl) (by kernel_rfl) (by kernel_rfl) (by kernel_rfl) (by kernel_rfl) (by kernel_rfl)
    rfl (by kernel_rfl) rfl rfl (by kernel_rfl) (by kernel_rfl) (by kernel_rfl) (by kernel_rfl)

theorem over : Rows.evictClearsRow.holds Tryz.pinned (OpenSpec.ofChange Rows.evictClearsSpec) :=
  OpenClaim.holds_of_wide 4 Tryz.f4 rfl rfl rfl rfl rfl rfl rfl ⟨rfl, rfl, rfl, rfl, rfl⟩ rfl rfl rfl rfl rfl named Tryz.func4 closed inst wrap
    (fun os started H enc _ => lifted os started H enc)

theorem proved : Rows.EvictClearsSaid := over
end Go.Proofs.YtkbijjglodnfbaaGreat.evictClears
