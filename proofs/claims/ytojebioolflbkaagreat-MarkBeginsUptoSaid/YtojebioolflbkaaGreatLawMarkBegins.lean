/-
  appleloftlaw.MarkBegins returns true for every input of bulk at most 1048576, and its arguments read afterwards as they read before.
  The walk is MarkBegins_walk; here the arguments are opened and shut again.
-/
import Derived.Test.YtojebioolflbkaaGreatFacts
import Derived.Test.YtojebioolflbkaaGreatMbW
import Derived.Test.YtojebioolflbkaaGreatBulk
import Derived.Test.YtojebioolflbkaaGreatBas
import Derived.ChangeOld
import Derived.JoinedCond
import Derived.Deep.CondSized
namespace Go.Proofs.YtojebioolflbkaaGreat.markBegins
open Go.ChangeShapes Go.WideShapes Go.ChangeAt Go.RowKit
set_option linter.unusedVariables false

theorem own : ownKnob Tryz.prog.godebug = none := by kernel_rfl
theorem laidOut : laidOutB Tryz.prog = true := prog_laidOut

set_option maxRecDepth 100000 in
theorem contract (H : Type) (enc : TypeId × Value → H) (W : World) (base : Nat) (args : Array Value) (ds gs : List (DataW H)) (before : List MemPlace)
    (hval0 : ∀ (j : Nat) t v, Tryz.f3.params[j]? = some t → args[j]? = some v → Value.okWide Tryz.prog W .any base t v)
    (hW : DataW.Whole enc Tryz.prog Tryz.f3.params.toList Rows.markBeginsSpec.vars false W args.toList ds gs before)
    (hsz0 : (DataW.weightsEach Tryz.prog (Tryz.f3.params.toList ++ Rows.markBeginsSpec.plain.varTypes Tryz.prog) (ds ++ gs)).all (· ≤ reachBytes) = true) (hk : Rows.uptoSmall H (ds ++ gs) = true) :
    Calls Tryz.prog 3 args W fun e W' => ∃ v, e = .returned v ∧ Rows.markBeginsSpec.post enc Tryz.prog Tryz.f3 false true false false W args v W' := by
  have hval : ∀ (j : Nat) t v, Tryz.f3.params[j]? = some t → args[j]? = some v → Value.okWide Tryz.prog W .any base t v := hval0
  have hW' := hW
  obtain ⟨p, q, hA0, hV, rfl, hfz, hnd⟩ := hW
  have hA : DataW.TrodAll enc Tryz.prog W 0 (fun _ => true) true Tryz.f3.params.toList args.toList ds p := hA0
  rw [Tryz.params3] at hA hval
  obtain ⟨v0, vs0, d0, ds0, p0, q0, hargs, rfl, rfl, h0, r0⟩ := trodAll_cons hA
  obtain ⟨v1, vs1, d1, ds1, p1, q1, rfl, rfl, rfl, h1, r1⟩ := trodAll_cons r0
  obtain ⟨v2, vs2, d2, ds2, p2, q2, rfl, rfl, rfl, h2, r2⟩ := trodAll_cons r1
  obtain ⟨rfl, rfl, rfl⟩ := trodAll_nil r2
  obtain rfl : args = #[v0, v1, v2] := by cases args; simp_all
  obtain ⟨rfl, rfl⟩ := trodVars_none hV
  have hsz : (DataW.weightsEach Tryz.prog [25, 26, 26] [d0, d1, d2]).all (· ≤ reachBytes) = true := by
    have hz := hsz0
    rw [Tryz.params3] at hz
    exact hz
  have k0 := h0
  have lt0 : ∀ x ∈ p0, x.block < W.heap.size := by obtain ⟨m, hm⟩ := k0; exact DataW.trod_lt m _ _ _ hm
  obtain ⟨a0, e0⟩ := open_arg (opens_store Tryz.underlying25 ⟨rfl, rfl, rfl, rfl⟩ (by kernel_rfl) ⟨by kernel_rfl, by kernel_rfl, by kernel_rfl, by kernel_rfl⟩ (opens_slice Tryz.underlying22 (by kernel_rfl) (by kernel_rfl) (by decide) (opens_blob Tryz.underlying61 ⟨rfl, rfl, rfl, rfl⟩ (by kernel_rfl) ⟨by kernel_rfl, by kernel_rfl, by kernel_rfl, by kernel_rfl⟩ (opens_string Tryz.underlying9) (opens_slice Tryz.underlying59 (by kernel_rfl) (by kernel_rfl) (by decide) (opens_u8 Tryz.underlying5) lies_u8) (opens_i Tryz.underlying3) (opens_bool Tryz.underlying4)) lies_blob) (opens_slice Tryz.underlying23 (by kernel_rfl) (by kernel_rfl) (by decide) (opens_entry Tryz.underlying84 ⟨rfl, rfl, rfl, rfl⟩ (by kernel_rfl) ⟨by kernel_rfl, by kernel_rfl, by kernel_rfl, by kernel_rfl⟩ (opens_string Tryz.underlying9) (opens_slice Tryz.underlying82 (by kernel_rfl) (by kernel_rfl) (by decide) (opens_part Tryz.underlying104 ⟨rfl, Tryz.underlying9⟩ ⟨rfl, Tryz.underlying9⟩ ⟨rfl, Tryz.underlying3⟩ (by kernel_rfl) (by kernel_rfl) (by kernel_rfl) (by kernel_rfl)) lies_part) (opens_i Tryz.underlying3) (opens_i Tryz.underlying3)) lies_entry) (opens_i Tryz.underlying3) (opens_i Tryz.underlying3)) h0 (sized_arg hsz (j := 0) (t := 25) (d := d0) rfl rfl)
  obtain ⟨z0, rfl, -⟩ := okWide_struct Tryz.underlying25 (hval 0 25 v0 rfl rfl)
  have e0 : VStore W z0.toList a0 := e0
  have k1 := h1
  have lt1 : ∀ x ∈ p1, x.block < W.heap.size := by obtain ⟨m, hm⟩ := k1; exact DataW.trod_lt m _ _ _ hm
  obtain ⟨a1, e1⟩ := open_arg (opens_slice Tryz.underlying26 (by kernel_rfl) (by kernel_rfl) (by decide) (opens_string Tryz.underlying9) lies_str) h1 (sized_arg hsz (j := 1) (t := 26) (d := d1) rfl rfl)
  rw [cells_slice Tryz.underlying26 (hval 1 26 v1 rfl rfl)] at e1
  obtain ⟨y1, ey1, e1⟩ := e1
  simp only [List.cons.injEq, and_true] at ey1
  subst ey1
  have k2 := h2
  have lt2 : ∀ x ∈ p2, x.block < W.heap.size := by obtain ⟨m, hm⟩ := k2; exact DataW.trod_lt m _ _ _ hm
  obtain ⟨a2, e2⟩ := open_arg (opens_slice Tryz.underlying26 (by kernel_rfl) (by kernel_rfl) (by decide) (opens_string Tryz.underlying9) lies_str) h2 (sized_arg hsz (j := 2) (t := 26) (d := d2) rfl rfl)
  rw [cells_slice Tryz.underlying26 (hval 2 26 v2 rfl rfl)] at e2
  obtain ⟨y2, ey2, e2⟩ := e2
  simp only [List.cons.injEq, and_true] at ey2
  subst ey2
  refine (MarkBegins_walk W z0 a0 v1 a1 v2 a2 e0 e1 e2 (Nat.add_le_add (bulk_rs Tryz.underlying26 e1 k1 hk (by simp)) (bulk_rs Tryz.underlying26 e2 k2 hk (by simp)))).mono fun e W' ⟨he, bel⟩ => ?_
  subst he
  exact ⟨_, rfl, _, _, _, [], _, [], hW', trodAll_mk1 (shut_bool Tryz.underlying4 _), (trodAll_cons_mk (Below.trod laidOut (by kernel_rfl) (of_decide_eq_true (by kernel_rfl)) k0 bel lt0) (trodAll_cons_mk (Below.trod laidOut (by kernel_rfl) (of_decide_eq_true (by kernel_rfl)) k1 bel lt1) (trodAll_cons_mk (Below.trod laidOut (by kernel_rfl) (of_decide_eq_true (by kernel_rfl)) k2 bel lt2) trodAll_mk0))), rfl, bel.frame _, fun h => by cases h⟩

set_option maxRecDepth 100000 in
theorem lifted (os : Os) (started : os.Started) (H : Type) (enc : TypeId × Value → H) (F : Stop.Interp) :
    ReturnsInHanded {} Tryz.checked os 3 .any ((Rows.OpenSpec.upto Rows.markBeginsSpec).pre6 enc Tryz.prog Tryz.f3 Rows.markBeginsUptoRow.domain false) (((Rows.OpenSpec.upto Rows.markBeginsSpec).at F).post enc Tryz.prog Tryz.f3 false true false false) := by
  refine returnsInHanded_of_cond_sized (C := Tryz.checked) (s := Rows.OpenSpec.upto Rows.markBeginsSpec) (k := Rows.uptoSmall) rfl own started (by kernel_rfl) Tryz.func3
    (OpenSpec.witness (enc := enc) (C := Tryz.checked) (s := Rows.OpenSpec.upto Rows.markBeginsSpec) (k := Rows.uptoSmall) rfl false ⟨#[], #[.agg #[.slice none 0 0, .slice none 0 0, .int .i64 0, .int .i64 0], .slice none 0 0, .slice none 0 0], []⟩ 8 (by kernel_rfl) (by kernel_rfl) (by kernel_rfl)
      (x := ([.agg [.nil, .nil, .lit (.int .i64 0), .lit (.int .i64 0)], .nil, .nil], [], [])) (by kernel_rfl) rfl (by kernel_rfl)) ?_
  intro W base args ds gs before hval hW _ hk hsz _
  exact contract H enc W base args ds gs before hval hW hsz hk

theorem named : Tryz.pinned.checked.prog.funcNamed Rows.markBeginsUptoRow.func = some 3 := by kernel_rfl
theorem inst : Tryz.f3.isInstance Tryz.pinned.checked.prog Rows.markBeginsUptoRow.origin Rows.markBeginsUptoRow.targs := of_decide_eq_true (by kernel_rfl)
theorem wrap : Tryz.f3.isWrapper Tryz.pinned.checked.prog Rows.markBeginsUptoRow.wrapper Rows.markBeginsUptoRow.mainSum := by
  unfold Func.isWrapper; rw [if_neg (by decide +kernel)]; exact ⟨rfl, rfl⟩
theorem inPlace : (Rows.markBeginsUptoRow.inPlace == Tryz.prog.inPlace 3) = true := by kernel_rfl
theorem unfollowed : (Rows.markBeginsUptoRow.unfollowed == Tryz.prog.unfollowed 3) = true := by kernel_rfl
theorem recurses : (Rows.markBeginsUptoRow.recurses == Tryz.prog.recurses 3) = true := by kernel_rfl
theorem varsNamed : (Rows.markBeginsUptoRow.named == Tryz.prog.varsNamed 3) = true := by kernel_rfl
theorem closed : joinedFacts Tryz.prog 3 Tryz.f3 (Rows.OpenSpec.upto Rows.markBeginsSpec).bare Rows.markBeginsUptoRow = true :=
  joined (by kernel_rfl) (by kernel_rfl) (by kernel_rfl) (by kernel_rfl) (by kernel_rfl) inPlace unfollowed recurses varsNamed (by kernel_rfl) (by kernel_rfl) (by kernel_rfl) (by kernel_rfl) (by kernel_rfl) (by kernel_rfl) (by kernel_rfl) (by kernel_rfl) (by kernel_rfl)
    rfl (by kernel_rfl) rfl rfl (by kernel_rfl) (by kernel_rfl) (by kernel_rfl) (by kernel_rfl)

theorem over : Rows.markBeginsUptoRow.holds Tryz.pinned (Rows.OpenSpec.upto Rows.markBeginsSpec) :=
  OpenClaim.holds_of_cond 3 Tryz.f3 rfl rfl rfl rfl rfl rfl rfl ⟨rfl, rfl, rfl, rfl, rfl⟩ rfl rfl rfl rfl rfl named Tryz.func3 closed inst wrap
    (fun os started H enc _ F => lifted os started H enc F)

theorem proved : Rows.MarkBeginsUptoSaid := over
end Go.Proofs.YtojebioolflbkaaGreat.markBegins
