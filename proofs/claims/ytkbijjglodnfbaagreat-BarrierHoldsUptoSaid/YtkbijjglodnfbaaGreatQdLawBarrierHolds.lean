/-
  appleloftlaw.BarrierHolds returns true for every input of bulk at most 1048576, and its arguments read afterwards as they read before.
  The walk is BarrierHolds_walk; here the arguments are opened and shut again.
-/
import Derived.Test.YtkbijjglodnfbaaGreatQdFacts
import Derived.Test.YtkbijjglodnfbaaGreatQdBrH
import Derived.Test.YtkbijjglodnfbaaGreatQdBulkC
import Derived.Test.YtkbijjglodnfbaaGreatQdBas
import Derived.ChangeOld
import Derived.JoinedCond
import Derived.Deep.CondSized
namespace Go.Proofs.YtkbijjglodnfbaaGreat.barrierHolds
open Go.ChangeShapes Go.WideShapes Go.ChangeAt Go.RowKit
set_option linter.unusedVariables false

theorem own : ownKnob Tryz.prog.godebug = none := by kernel_rfl
theorem laidOut : laidOutB Tryz.prog = true := prog_laidOut

set_option maxRecDepth 100000 in
theorem contract (H : Type) (enc : TypeId × Value → H) (W : World) (base : Nat) (args : Array Value) (ds gs : List (DataW H)) (before : List MemPlace)
    (hval0 : ∀ (j : Nat) t v, Tryz.f9.params[j]? = some t → args[j]? = some v → Value.okWide Tryz.prog W .any base t v)
    (hW : DataW.Whole enc Tryz.prog Tryz.f9.params.toList Rows.barrierHoldsSpec.vars false W args.toList ds gs before)
    (hsz0 : (DataW.weightsEach Tryz.prog (Tryz.f9.params.toList ++ Rows.barrierHoldsSpec.plain.varTypes Tryz.prog) (ds ++ gs)).all (· ≤ reachBytes) = true) (hk : Rows.uptoSmall H (ds ++ gs) = true) :
    Calls Tryz.prog 9 args W fun e W' => ∃ v, e = .returned v ∧ Rows.barrierHoldsSpec.post enc Tryz.prog Tryz.f9 false true false false W args v W' := by
  have hval : ∀ (j : Nat) t v, Tryz.f9.params[j]? = some t → args[j]? = some v → Value.okWide Tryz.prog W .any base t v := hval0
  have hW' := hW
  obtain ⟨p, q, hA0, hV, rfl, hfz, hnd⟩ := hW
  have hA : DataW.TrodAll enc Tryz.prog W 0 (fun _ => true) true Tryz.f9.params.toList args.toList ds p := hA0
  rw [Tryz.params9] at hA hval
  obtain ⟨v0, vs0, d0, ds0, p0, q0, hargs, rfl, rfl, h0, r0⟩ := trodAll_cons hA
  obtain ⟨v1, vs1, d1, ds1, p1, q1, rfl, rfl, rfl, h1, r1⟩ := trodAll_cons r0
  obtain ⟨v2, vs2, d2, ds2, p2, q2, rfl, rfl, rfl, h2, r2⟩ := trodAll_cons r1
  obtain ⟨v3, vs3, d3, ds3, p3, q3, rfl, rfl, rfl, h3, r3⟩ := trodAll_cons r2
  obtain ⟨v4, vs4, d4, ds4, p4, q4, rfl, rfl, rfl, h4, r4⟩ := trodAll_cons r3
  obtain ⟨rfl, rfl, rfl⟩ := trodAll_nil r4
  obtain rfl : args = #[v0, v1, v2, v3, v4] := by cases args; simp_all
  obtain ⟨rfl, rfl⟩ := trodVars_none hV
  have hsz : (DataW.weightsEach Tryz.prog [25, 28, 9, 4, 3] [d0, d1, d2, d3, d4]).all (· ≤ reachBytes) = true := by
    have hz := hsz0
    rw [Tryz.params9] at hz
    exact hz
  have k0 := h0
  have lt0 : ∀ x ∈ p0, x.block < W.heap.size := by obtain ⟨m, hm⟩ := k0; exact DataW.trod_lt m _ _ _ hm
  obtain ⟨a0, e0⟩ := open_arg (opens_store Tryz.underlying25 ⟨rfl, rfl, rfl, rfl⟩ (by kernel_rfl) ⟨by kernel_rfl, by kernel_rfl, by kernel_rfl, by kernel_rfl⟩ (opens_slice Tryz.underlying22 (by kernel_rfl) (by kernel_rfl) (by decide) (opens_blob Tryz.underlying80 ⟨rfl, rfl, rfl, rfl⟩ (by kernel_rfl) ⟨by kernel_rfl, by kernel_rfl, by kernel_rfl, by kernel_rfl⟩ (opens_string Tryz.underlying9) (opens_slice Tryz.underlying78 (by kernel_rfl) (by kernel_rfl) (by decide) (opens_u8 Tryz.underlying5) lies_u8) (opens_i Tryz.underlying3) (opens_bool Tryz.underlying4)) lies_blob) (opens_slice Tryz.underlying23 (by kernel_rfl) (by kernel_rfl) (by decide) (opens_entry Tryz.underlying91 ⟨rfl, rfl, rfl, rfl⟩ (by kernel_rfl) ⟨by kernel_rfl, by kernel_rfl, by kernel_rfl, by kernel_rfl⟩ (opens_string Tryz.underlying9) (opens_slice Tryz.underlying48 (by kernel_rfl) (by kernel_rfl) (by decide) (opens_part Tryz.underlying107 ⟨rfl, Tryz.underlying9⟩ ⟨rfl, Tryz.underlying9⟩ ⟨rfl, Tryz.underlying3⟩ (by kernel_rfl) (by kernel_rfl) (by kernel_rfl) (by kernel_rfl)) lies_part) (opens_i Tryz.underlying3) (opens_i Tryz.underlying3)) lies_entry) (opens_i Tryz.underlying3) (opens_i Tryz.underlying3)) h0 (sized_arg hsz (j := 0) (t := 25) (d := d0) rfl rfl)
  obtain ⟨z0, rfl, -⟩ := okWide_struct Tryz.underlying25 (hval 0 25 v0 rfl rfl)
  have e0 : VStore W z0.toList a0 := e0
  have k1 := h1
  have lt1 : ∀ x ∈ p1, x.block < W.heap.size := by obtain ⟨m, hm⟩ := k1; exact DataW.trod_lt m _ _ _ hm
  obtain ⟨a1, e1⟩ := open_arg (opens_coll Tryz.underlying28 ⟨rfl, rfl, rfl⟩ (by kernel_rfl) ⟨by kernel_rfl, by kernel_rfl, by kernel_rfl⟩ (opens_i Tryz.underlying3) (opens_slice Tryz.underlying26 (by kernel_rfl) (by kernel_rfl) (by decide) (opens_string Tryz.underlying9) lies_str) (opens_string Tryz.underlying9)) h1 (sized_arg hsz (j := 1) (t := 28) (d := d1) rfl rfl)
  obtain ⟨z1, rfl, -⟩ := okWide_struct Tryz.underlying28 (hval 1 28 v1 rfl rfl)
  have e1 : VColl W z1.toList a1 := e1
  have k2 := h2
  have lt2 : ∀ x ∈ p2, x.block < W.heap.size := by obtain ⟨m, hm⟩ := k2; exact DataW.trod_lt m _ _ _ hm
  obtain ⟨a2, e2⟩ := open_arg (opens_string Tryz.underlying9) h2 (sized_arg hsz (j := 2) (t := 9) (d := d2) rfl rfl)
  obtain ⟨z2, rfl⟩ := okWide_string Tryz.underlying9 (hval 2 9 v2 rfl rfl)
  obtain ⟨ey2, e2⟩ := e2
  simp only [Value.cells, List.cons.injEq, Value.string.injEq, and_true] at ey2
  subst ey2
  have k3 := h3
  have lt3 : ∀ x ∈ p3, x.block < W.heap.size := by obtain ⟨m, hm⟩ := k3; exact DataW.trod_lt m _ _ _ hm
  obtain ⟨a3, e3⟩ := open_arg (opens_bool Tryz.underlying4) h3 (sized_arg hsz (j := 3) (t := 4) (d := d3) rfl rfl)
  obtain ⟨z3, rfl⟩ := okWide_bool Tryz.underlying4 (hval 3 4 v3 rfl rfl)
  simp only [VB, Value.cells, List.cons.injEq, Value.bool.injEq, and_true] at e3
  subst e3
  have k4 := h4
  have lt4 : ∀ x ∈ p4, x.block < W.heap.size := by obtain ⟨m, hm⟩ := k4; exact DataW.trod_lt m _ _ _ hm
  obtain ⟨a4, e4⟩ := open_arg (opens_i Tryz.underlying3) h4 (sized_arg hsz (j := 4) (t := 3) (d := d4) rfl rfl)
  obtain ⟨z4, rfl⟩ := okWide_int Tryz.underlying3 (hval 4 3 v4 rfl rfl)
  obtain ⟨ey4, e4⟩ := e4
  simp only [Value.cells, List.cons.injEq, Value.int.injEq, and_true, true_and] at ey4
  subst ey4
  refine (BarrierHolds_walk W z0 a0 z1 a1 z2 z3 z4 e0 e1 e2 e4 ((Nat.le_trans (bulk_coll Tryz.underlying28 rfl (by kernel_rfl) Tryz.underlying26 e1 k1) (Nat.le_trans (bulk_small hk (by simp)) (by decide))))).mono fun e W' ⟨he, bel⟩ => ?_
  subst he
  exact ⟨_, rfl, _, _, _, [], _, [], hW', trodAll_mk1 (shut_bool Tryz.underlying4 _), (trodAll_cons_mk (Below.trod laidOut (by kernel_rfl) (of_decide_eq_true (by kernel_rfl)) k0 bel lt0) (trodAll_cons_mk (Below.trod laidOut (by kernel_rfl) (of_decide_eq_true (by kernel_rfl)) k1 bel lt1) (trodAll_cons_mk (Below.trod laidOut (by kernel_rfl) (of_decide_eq_true (by kernel_rfl)) k2 bel lt2) (trodAll_cons_mk (Below.trod laidOut (by kernel_rfl) (of_decide_eq_true (by kernel_rfl)) k3 bel lt3) (trodAll_cons_mk (Below.trod laidOut (by kernel_rfl) (of_decide_eq_true (by kernel_rfl)) k4 bel lt4) trodAll_mk0))))), rfl, bel.frame _, fun h => by cases h⟩

set_option maxRecDepth 100000 in
theorem lifted (os : Os) (started : os.Started) (H : Type) (enc : TypeId × Value → H) (F : Stop.Interp) :
    ReturnsInHanded {} Tryz.checked os 9 .any ((Rows.OpenSpec.upto Rows.barrierHoldsSpec).pre6 enc Tryz.prog Tryz.f9 Rows.barrierHoldsUptoRow.domain false) (((Rows.OpenSpec.upto Rows.barrierHoldsSpec).at F).post enc Tryz.prog Tryz.f9 false true false false) := by
  refine returnsInHanded_of_cond_sized (C := Tryz.checked) (s := Rows.OpenSpec.upto Rows.barrierHoldsSpec) (k := Rows.uptoSmall) rfl own started (by kernel_rfl) Tryz.func9
    (OpenSpec.witness (enc := enc) (C := Tryz.checked) (s := Rows.OpenSpec.upto Rows.barrierHoldsSpec) (k := Rows.uptoSmall) rfl false ⟨#[], #[.agg #[.slice none 0 0, .slice none 0 0, .int .i64 0, .int .i64 0], .agg #[.int .i64 0, .slice none 0 0, .string ⟨#[]⟩], .string ⟨#[]⟩, .bool false, .int .i64 0], []⟩ 8 (by kernel_rfl) (by kernel_rfl) (by kernel_rfl)
      (x := ([.agg [.nil, .nil, .lit (.int .i64 0), .lit (.int .i64 0)], .agg [.lit (.int .i64 0), .nil, .lit (.string [])], .lit (.string []), .lit (.bool false), .lit (.int .i64 0)], [], [])) (by kernel_rfl) rfl (by kernel_rfl)) ?_
  intro W base args ds gs before hval hW _ hk hsz _
  exact contract H enc W base args ds gs before hval hW hsz hk

theorem named : Tryz.pinned.checked.prog.funcNamed Rows.barrierHoldsUptoRow.func = some 9 := by kernel_rfl
theorem inst : Tryz.f9.isInstance Tryz.pinned.checked.prog Rows.barrierHoldsUptoRow.origin Rows.barrierHoldsUptoRow.targs := of_decide_eq_true (by kernel_rfl)
theorem wrap : Tryz.f9.isWrapper Tryz.pinned.checked.prog Rows.barrierHoldsUptoRow.wrapper Rows.barrierHoldsUptoRow.mainSum := by
  unfold Func.isWrapper; rw [if_neg (by decide +kernel)]; exact ⟨rfl, rfl⟩
theorem inPlace : (Rows.barrierHoldsUptoRow.inPlace == Tryz.prog.inPlace 9) = true := by kernel_rfl
theorem unfollowed : (Rows.barrierHoldsUptoRow.unfollowed == Tryz.prog.unfollowed 9) = true := by kernel_rfl
theorem recurses : (Rows.barrierHoldsUptoRow.recurses == Tryz.prog.recurses 9) = true := by kernel_rfl
theorem varsNamed : (Rows.barrierHoldsUptoRow.named == Tryz.prog.varsNamed 9) = true := by kernel_rfl
theorem closed : joinedFacts Tryz.prog 9 Tryz.f9 (Rows.OpenSpec.upto Rows.barrierHoldsSpec).bare Rows.barrierHoldsUptoRow = true :=
  joined (by kernel_rfl) (by kernel_rfl) (by kernel_rfl) (by kernel_rfl) (by kernel_rfl) inPlace unfollowed recurses varsNamed (by kernel_rfl) (by kernel_rfl) (by kernel_rfl) (by kernel_rfl) (by kernel_rfl) (by kernel_rfl) (by kernel_rfl) (by kernel_rfl) (by kernel_rfl)
    rfl (by kernel_rfl) rfl rfl (by kernel_rfl) (by kernel_rfl) (by kernel_rfl) (by kernel_rfl)

theorem over : Rows.barrierHoldsUptoRow.holds Tryz.pinned (Rows.OpenSpec.upto Rows.barrierHoldsSpec) :=
  OpenClaim.holds_of_cond 9 Tryz.f9 rfl rfl rfl rfl rfl rfl rfl ⟨rfl, rfl, rfl, rfl, rfl⟩ rfl rfl rfl rfl rfl named Tryz.func9 closed inst wrap
    (fun os started H enc _ F => lifted os started H enc F)

theorem proved : Rows.BarrierHoldsUptoSaid := over
end Go.Proofs.YtkbijjglodnfbaaGreat.barrierHolds
