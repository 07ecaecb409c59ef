/-
  appleloftlaw.MarkAlls returns true for every input, and its arguments read afterwards as they read before.
  The walk is MarkAlls_walk; here the arguments are opened and shut again.
-/
import Derived.Test.YtojebioolflbkaaFacts
import Derived.Test.YtojebioolflbkaaMkW
import Derived.Test.YtojebioolflbkaaBas
import Derived.ChangeOld
namespace Go.Proofs.Ytojebioolflbkaa.markAlls
open Go.ChangeShapes Go.WideShapes Go.ChangeAt Go.RowKit
set_option linter.unusedVariables false

theorem own : ownKnob Try.prog.godebug = none := by kernel_rfl
theorem laidOut : laidOutB Try.prog = true := prog_laidOut

set_option maxRecDepth 100000 in
theorem contract (H : Type) (enc : TypeId × Value → H) (W : World) (base : Nat) (args : Array Value) (ds gs : List (DataW H)) (before : List MemPlace)
    (hval0 : ∀ (j : Nat) t v, Try.f6.params[j]? = some t → args[j]? = some v → Value.okWide Try.prog W .any base t v)
    (hW : DataW.Whole enc Try.prog Try.f6.params.toList Rows.markAllsSpec.vars false W args.toList ds gs before)
    (hsz0 : (DataW.weightsEach Try.prog (Try.f6.params.toList ++ Rows.markAllsSpec.plain.varTypes Try.prog) (ds ++ gs)).all (· ≤ reachBytes) = true) :
    Calls Try.prog 6 args W fun e W' => ∃ v, e = .returned v ∧ Rows.markAllsSpec.post enc Try.prog Try.f6 false true false false W args v W' := by
  have hval : ∀ (j : Nat) t v, Try.f6.params[j]? = some t → args[j]? = some v → Value.okWide Try.prog W .any base t v := hval0
  have hW' := hW
  obtain ⟨p, q, hA0, hV, rfl, hfz, hnd⟩ := hW
  have hA : DataW.TrodAll enc Try.prog W 0 (fun _ => true) true Try.f6.params.toList args.toList ds p := hA0
  rw [Try.params6] at hA hval
  obtain ⟨v0, vs0, d0, ds0, p0, q0, hargs, rfl, rfl, h0, r0⟩ := trodAll_cons hA
  obtain ⟨v1, vs1, d1, ds1, p1, q1, rfl, rfl, rfl, h1, r1⟩ := trodAll_cons r0
  obtain ⟨rfl, rfl, rfl⟩ := trodAll_nil r1
  obtain rfl : args = #[v0, v1] := by cases args; simp_all
  obtain ⟨rfl, rfl⟩ := trodVars_none hV
  have hsz : (DataW.weightsEach Try.prog [36, 40] [d0, d1]).all (· ≤ reachBytes) = true := by
    have hz := hsz0
    rw [Try.params6] at hz
    exact hz
  have k0 := h0
  have lt0 : ∀ x ∈ p0, x.block < W.heap.size := by obtain ⟨m, hm⟩ := k0; exact DataW.trod_lt m _ _ _ hm
  obtain ⟨a0, e0⟩ := open_arg (opens_slice Try.underlying36 (by kernel_rfl) (by kernel_rfl) (by decide) (opens_blob Try.underlying86 ⟨rfl, rfl, rfl, rfl⟩ (by kernel_rfl) ⟨by kernel_rfl, by kernel_rfl, by kernel_rfl, by kernel_rfl⟩ (opens_string Try.underlying9) (opens_slice Try.underlying28 (by kernel_rfl) (by kernel_rfl) (by decide) (opens_u8 Try.underlying5) lies_u8) (opens_i Try.underlying3) (opens_bool Try.underlying4)) lies_blob) h0 (sized_arg hsz (j := 0) (t := 36) (d := d0) rfl rfl)
  rw [cells_slice Try.underlying36 (hval 0 36 v0 rfl rfl)] at e0
  obtain ⟨y0, ey0, e0⟩ := e0
  simp only [List.cons.injEq, and_true] at ey0
  subst ey0
  have k1 := h1
  have lt1 : ∀ x ∈ p1, x.block < W.heap.size := by obtain ⟨m, hm⟩ := k1; exact DataW.trod_lt m _ _ _ hm
  obtain ⟨a1, e1⟩ := open_arg (opens_slice Try.underlying40 (by kernel_rfl) (by kernel_rfl) (by decide) (opens_string Try.underlying9) lies_str) h1 (sized_arg hsz (j := 1) (t := 40) (d := d1) rfl rfl)
  rw [cells_slice Try.underlying40 (hval 1 40 v1 rfl rfl)] at e1
  obtain ⟨y1, ey1, e1⟩ := e1
  simp only [List.cons.injEq, and_true] at ey1
  subst ey1
  refine (MarkAlls_walk W v0 a0 v1 a1 e0 e1).mono fun e W' ⟨he, bel⟩ => ?_
  subst he
  exact ⟨_, rfl, _, _, _, [], _, [], hW', trodAll_mk1 (shut_bool Try.underlying4 _), (trodAll_cons_mk (Below.trod laidOut (by kernel_rfl) (of_decide_eq_true (by kernel_rfl)) k0 bel lt0) (trodAll_cons_mk (Below.trod laidOut (by kernel_rfl) (of_decide_eq_true (by kernel_rfl)) k1 bel lt1) trodAll_mk0)), rfl, bel.frame _, fun h => by cases h⟩

set_option maxRecDepth 100000 in
theorem lifted (os : Os) (started : os.Started) (H : Type) (enc : TypeId × Value → H) :
    ReturnsInHanded {} Try.checked os 6 .any (Rows.markAllsSpec.pre6 enc Try.prog Try.f6 Rows.markAllsRow.domain false) (Rows.markAllsSpec.post enc Try.prog Try.f6 false true false false) := by
  refine returnsInHanded_of_change_sized (C := Try.checked) own started (by kernel_rfl) Try.func6
    (ChangeSpec.witness6 (enc := enc) (C := Try.checked) false ⟨#[], #[.slice none 0 0, .slice none 0 0], []⟩ 8 (by kernel_rfl) (by kernel_rfl) (by kernel_rfl) (by kernel_rfl)) ?_
  intro W base args ds gs before hval hW _ hsz _
  exact contract H enc W base args ds gs before hval hW hsz

theorem named : Try.pinned.checked.prog.funcNamed Rows.markAllsRow.func = some 6 := by kernel_rfl
theorem inst : Try.f6.isInstance Try.pinned.checked.prog Rows.markAllsRow.origin Rows.markAllsRow.targs := of_decide_eq_true (by kernel_rfl)
theorem wrap : Try.f6.isWrapper Try.pinned.checked.prog Rows.markAllsRow.wrapper Rows.markAllsRow.mainSum := by
  unfold Func.isWrapper; rw [if_neg (by decide +kernel)]; exact ⟨rfl, rfl⟩
theorem inPlace : (Rows.markAllsRow.inPlace == Try.prog.inPlace 6) = true := by kernel_rfl
theorem unfollowed : (Rows.markAllsRow.unfollowed == Try.prog.unfollowed 6) = true := by kernel_rfl
theorem recurses : (Rows.markAllsRow.recurses == Try.prog.recurses 6) = true := by kernel_rfl
theorem varsNamed : (Rows.markAllsRow.named == Try.prog.varsNamed 6) = true := by kernel_rfl
theorem closed : joinedFacts Try.prog 6 Try.f6 Rows.markAllsSpec Rows.markAllsRow = true :=
  joined (by kernel_rfl) (by kernel_rfl) (by kernel_rfl) (by kernel_rfl) (by kernel_rfl) inPlace unfollowed recurses varsNamed (by kernel_rfl) (by kernel_rfl) (by kernel_rfl) (by kernel_rfl) (by kernel_rfl) (by kernel_rfl) (by kernel_rfl) (by kernel_rfl) (by kernel_rfl)
    rfl (by kernel_rfl) rfl rfl (by kernel_rfl) (by kernel_rfl) (by kernel_rfl) (by kernel_rfl)

theorem over : Rows.markAllsRow.holds Try.pinned (OpenSpec.ofChange Rows.markAllsSpec) :=
  OpenClaim.holds_of_wide 6 Try.f6 rfl rfl rfl rfl rfl rfl rfl ⟨rfl, rfl, rfl, rfl, rfl⟩ rfl rfl rfl rfl rfl named Try.func6 closed inst wrap
    (fun os started H enc _ => lifted os started H enc)

theorem proved : Rows.MarkAllsSaid := over
end Go.Proofs.Ytojebioolflbkaa.markAlls
