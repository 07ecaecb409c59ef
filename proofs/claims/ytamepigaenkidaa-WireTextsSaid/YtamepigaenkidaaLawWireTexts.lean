/-
  appleloftlaw.WireTexts returns true for every input, and its arguments read afterwards as they read before.
  The walk is WireTexts_walk; here the arguments are opened and shut again.
-/
import Derived.Test.YtamepigaenkidaaFacts
import Derived.Test.YtamepigaenkidaaWire3
import Derived.Test.YtamepigaenkidaaOpen
import Derived.ChangeOld
namespace Go.Proofs.Ytamepigaenkidaa.wireTexts
open Go.ChangeShapes Go.WideShapes Go.ChangeAt Go.RowKit
set_option linter.unusedVariables false

theorem own : ownKnob Try.prog.godebug = none := by kernel_rfl
theorem laidOut : laidOutB Try.prog = true := prog_laidOut

set_option maxRecDepth 100000 in
theorem contract (H : Type) (enc : TypeId × Value → H) (W : World) (base : Nat) (args : Array Value) (ds gs : List (DataW H)) (before : List MemPlace)
    (hval0 : ∀ (j : Nat) t v, Try.f16.params[j]? = some t → args[j]? = some v → Value.okWide Try.prog W .any base t v)
    (hW : DataW.Whole enc Try.prog Try.f16.params.toList Rows.wireTextsSpec.vars false W args.toList ds gs before)
    (hsz0 : (DataW.weightsEach Try.prog (Try.f16.params.toList ++ Rows.wireTextsSpec.plain.varTypes Try.prog) (ds ++ gs)).all (· ≤ reachBytes) = true) :
    Calls Try.prog 16 args W fun e W' => ∃ v, e = .returned v ∧ Rows.wireTextsSpec.post enc Try.prog Try.f16 false true false false W args v W' := by
  have hval : ∀ (j : Nat) t v, Try.f16.params[j]? = some t → args[j]? = some v → Value.okWide Try.prog W .any base t v := hval0
  have hW' := hW
  obtain ⟨p, q, hA0, hV, rfl, hfz, hnd⟩ := hW
  have hA : DataW.TrodAll enc Try.prog W 0 (fun _ => true) true Try.f16.params.toList args.toList ds p := hA0
  rw [Try.params16] at hA hval
  obtain ⟨v0, vs0, d0, ds0, p0, q0, hargs, rfl, rfl, h0, r0⟩ := trodAll_cons hA
  obtain ⟨v1, vs1, d1, ds1, p1, q1, rfl, rfl, rfl, h1, r1⟩ := trodAll_cons r0
  obtain ⟨rfl, rfl, rfl⟩ := trodAll_nil r1
  obtain rfl : args = #[v0, v1] := by cases args; simp_all
  obtain ⟨rfl, rfl⟩ := trodVars_none hV
  have hsz : (DataW.weightsEach Try.prog [9, 28] [d0, d1]).all (· ≤ reachBytes) = true := by
    have hz := hsz0
    rw [Try.params16] at hz
    exact hz
  have k0 := h0
  have lt0 : ∀ x ∈ p0, x.block < W.heap.size := by obtain ⟨m, hm⟩ := k0; exact DataW.trod_lt m _ _ _ hm
  obtain ⟨a0, e0⟩ := open_arg (opens_string Try.underlying9) h0 (sized_arg hsz (j := 0) (t := 9) (d := d0) rfl rfl)
  obtain ⟨z0, rfl⟩ := okWide_string Try.underlying9 (hval 0 9 v0 rfl rfl)
  obtain ⟨ey0, e0⟩ := e0
  simp only [Value.cells, List.cons.injEq, Value.string.injEq, and_true] at ey0
  subst ey0
  have k1 := h1
  have lt1 : ∀ x ∈ p1, x.block < W.heap.size := by obtain ⟨m, hm⟩ := k1; exact DataW.trod_lt m _ _ _ hm
  obtain ⟨a1, e1⟩ := open_arg (opens_slice Try.underlying28 (by kernel_rfl) (by kernel_rfl) (by decide) (opens_u8 Try.underlying5) lies_u8) h1 (sized_arg hsz (j := 1) (t := 28) (d := d1) rfl rfl)
  rw [cells_slice Try.underlying28 (hval 1 28 v1 rfl rfl)] at e1
  obtain ⟨y1, ey1, e1⟩ := e1
  simp only [List.cons.injEq, and_true] at ey1
  subst ey1
  refine (WireTexts_walk W z0 v1 a1 e0 e1).mono fun e W' ⟨he, bel⟩ => ?_
  subst he
  exact ⟨_, rfl, _, _, _, [], _, [], hW', trodAll_mk1 (shut_bool Try.underlying4 _), (trodAll_cons_mk (Below.trod laidOut (by kernel_rfl) (of_decide_eq_true (by kernel_rfl)) k0 bel lt0) (trodAll_cons_mk (Below.trod laidOut (by kernel_rfl) (of_decide_eq_true (by kernel_rfl)) k1 bel lt1) trodAll_mk0)), rfl, bel.frame _, fun h => by cases h⟩

set_option maxRecDepth 100000 in
theorem lifted (os : Os) (started : os.Started) (H : Type) (enc : TypeId × Value → H) :
    ReturnsInHanded {} Try.checked os 16 .any (Rows.wireTextsSpec.pre6 enc Try.prog Try.f16 Rows.wireTextsRow.domain false) (Rows.wireTextsSpec.post enc Try.prog Try.f16 false true false false) := by
  refine returnsInHanded_of_change_sized (C := Try.checked) own started (by kernel_rfl) Try.func16
    (ChangeSpec.witness6 (enc := enc) (C := Try.checked) false ⟨#[], #[.string ⟨#[]⟩, .slice none 0 0], []⟩ 8 (by kernel_rfl) (by kernel_rfl) (by kernel_rfl) (by kernel_rfl)) ?_
  intro W base args ds gs before hval hW _ hsz _
  exact contract H enc W base args ds gs before hval hW hsz

theorem named : Try.pinned.checked.prog.funcNamed Rows.wireTextsRow.func = some 16 := by kernel_rfl
theorem inst : Try.f16.isInstance Try.pinned.checked.prog Rows.wireTextsRow.origin Rows.wireTextsRow.targs := of_decide_eq_true (by kernel_rfl)
theorem wrap : Try.f16.isWrapper Try.pinned.checked.prog Rows.wireTextsRow.wrapper Rows.wireTextsRow.mainSum := by
  unfold Func.isWrapper; rw [if_neg (by decide +kernel)]; exact ⟨rfl, rfl⟩
theorem inPlace : (Rows.wireTextsRow.inPlace == Try.prog.inPlace 16) = true := by kernel_rfl
theorem unfollowed : (Rows.wireTextsRow.unfollowed == Try.prog.unfollowed 16) = true := by kernel_rfl
theorem recurses : (Rows.wireTextsRow.recurses == Try.prog.recurses 16) = true := by kernel_rfl
theorem varsNamed : (Rows.wireTextsRow.named == Try.prog.varsNamed 16) = true := by kernel_rfl
theorem closed : joinedFacts Try.prog 16 Try.f16 Rows.wireTextsSpec Rows.wireTextsRow = true :=
  joined (by kernel_rfl) (by kernel_rfl) (by kernel_rfl) (by kernel_rfl) (by kernel_rfl) inPlace unfollowed recurses varsNamed (by kernel_rfl) (by kernel_rfl) (by kernel_rfl) (by kernel_rfl) (by kernel_rfl) (by kernel_rfl) (by kernel_rfl) (by kernel_rfl) (by kernel_rfl)
    rfl (by kernel_rfl) rfl rfl (by kernel_rfl) (by kernel_rfl) (by kernel_rfl) (by kernel_rfl)

theorem over : Rows.wireTextsRow.holds Try.pinned (OpenSpec.ofChange Rows.wireTextsSpec) :=
  OpenClaim.holds_of_wide 16 Try.f16 rfl rfl rfl rfl rfl rfl rfl ⟨rfl, rfl, rfl, rfl, rfl⟩ rfl rfl rfl rfl rfl named Try.func16 closed inst wrap
    (fun os started H enc _ => lifted os started H enc)

theorem proved : Rows.WireTextsSaid := over
end Go.Proofs.Ytamepigaenkidaa.wireTexts
