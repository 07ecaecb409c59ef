/-
  appleloftlaw.CollectRuns returns true for every input of bulk at most 1048576, and its arguments read afterwards as they read before.
  The walk is CollectRuns_walk; here the arguments are opened and shut again.
-/
import Derived.Test.YtpcnhldlfmdlhaaGreatQxFacts
import Derived.Test.YtpcnhldlfmdlhaaGreatQxRnW
import Derived.Test.YtpcnhldlfmdlhaaGreatQxBulkC
import Derived.Test.YtpcnhldlfmdlhaaGreatQxBas
import Derived.ChangeOld
import Derived.JoinedCond
import Derived.Deep.CondSized
namespace Go.Proofs.YtpcnhldlfmdlhaaGreat.collectRuns
open Go.ChangeShapes Go.WideShapes Go.ChangeAt Go.RowKit
set_option linter.unusedVariables false

theorem own : ownKnob Tryz.prog.godebug = none := by kernel_rfl
theorem laidOut : laidOutB Tryz.prog = true := prog_laidOut

set_option maxRecDepth 100000 in
theorem contract (H : Type) (enc : TypeId × Value → H) (W : World) (base : Nat) (args : Array Value) (ds gs : List (DataW H)) (before : List MemPlace)
    (hval0 : ∀ (j : Nat) t v, Tryz.f6.params[j]? = some t → args[j]? = some v → Value.okWide Tryz.prog W .any base t v)
    (hW : DataW.Whole enc Tryz.prog Tryz.f6.params.toList Rows.collectRunsSpec.vars false W args.toList ds gs before)
    (hsz0 : (DataW.weightsEach Tryz.prog (Tryz.f6.params.toList ++ Rows.collectRunsSpec.plain.varTypes Tryz.prog) (ds ++ gs)).all (· ≤ reachBytes) = true) (hk : Rows.uptoSmall H (ds ++ gs) = true) :
    Calls Tryz.prog 6 args W fun e W' => ∃ v, e = .returned v ∧ Rows.collectRunsSpec.post enc Tryz.prog Tryz.f6 false true false false W args v W' := by
  have hval : ∀ (j : Nat) t v, Tryz.f6.params[j]? = some t → args[j]? = some v → Value.okWide Tryz.prog W .any base t v := hval0
  have hW' := hW
  obtain ⟨p, q, hA0, hV, rfl, hfz, hnd⟩ := hW
  have hA : DataW.TrodAll enc Tryz.prog W 0 (fun _ => true) true Tryz.f6.params.toList args.toList ds p := hA0
  rw [Tryz.params6] at hA hval
  obtain ⟨v0, vs0, d0, ds0, p0, q0, hargs, rfl, rfl, h0, r0⟩ := trodAll_cons hA
  obtain ⟨v1, vs1, d1, ds1, p1, q1, rfl, rfl, rfl, h1, r1⟩ := trodAll_cons r0
  obtain ⟨rfl, rfl, rfl⟩ := trodAll_nil r1
  obtain rfl : args = #[v0, v1] := by cases args; simp_all
  obtain ⟨rfl, rfl⟩ := trodVars_none hV
  have hsz : (DataW.weightsEach Tryz.prog [29, 32] [d0, d1]).all (· ≤ reachBytes) = true := by
    have hz := hsz0
    rw [Tryz.params6] at hz
    exact hz
  have k0 := h0
  have lt0 : ∀ x ∈ p0, x.block < W.heap.size := by obtain ⟨m, hm⟩ := k0; exact DataW.trod_lt m _ _ _ hm
  obtain ⟨a0, e0⟩ := open_arg (opens_store Tryz.underlying29 ⟨rfl, rfl, rfl, rfl⟩ (by kernel_rfl) ⟨by kernel_rfl, by kernel_rfl, by kernel_rfl, by kernel_rfl⟩ (opens_slice Tryz.underlying26 (by kernel_rfl) (by kernel_rfl) (by decide) (opens_blob Tryz.underlying50 ⟨rfl, rfl, rfl, rfl⟩ (by kernel_rfl) ⟨by kernel_rfl, by kernel_rfl, by kernel_rfl, by kernel_rfl⟩ (opens_string Tryz.underlying9) (opens_slice Tryz.underlying41 (by kernel_rfl) (by kernel_rfl) (by decide) (opens_u8 Tryz.underlying5) lies_u8) (opens_i Tryz.underlying3) (opens_bool Tryz.underlying4)) lies_blob) (opens_slice Tryz.underlying27 (by kernel_rfl) (by kernel_rfl) (by decide) (opens_entry Tryz.underlying71 ⟨rfl, rfl, rfl, rfl⟩ (by kernel_rfl) ⟨by kernel_rfl, by kernel_rfl, by kernel_rfl, by kernel_rfl⟩ (opens_string Tryz.underlying9) (opens_slice Tryz.underlying42 (by kernel_rfl) (by kernel_rfl) (by decide) (opens_part Tryz.underlying75 ⟨rfl, Tryz.underlying9⟩ ⟨rfl, Tryz.underlying9⟩ ⟨rfl, Tryz.underlying3⟩ (by kernel_rfl) (by kernel_rfl) (by kernel_rfl) (by kernel_rfl)) lies_part) (opens_i Tryz.underlying3) (opens_i Tryz.underlying3)) lies_entry) (opens_i Tryz.underlying3) (opens_i Tryz.underlying3)) h0 (sized_arg hsz (j := 0) (t := 29) (d := d0) rfl rfl)
  obtain ⟨z0, rfl, -⟩ := okWide_struct Tryz.underlying29 (hval 0 29 v0 rfl rfl)
  have e0 : VStore W z0.toList a0 := e0
  have k1 := h1
  have lt1 : ∀ x ∈ p1, x.block < W.heap.size := by obtain ⟨m, hm⟩ := k1; exact DataW.trod_lt m _ _ _ hm
  obtain ⟨a1, e1⟩ := open_arg (opens_coll Tryz.underlying32 ⟨rfl, rfl, rfl⟩ (by kernel_rfl) ⟨by kernel_rfl, by kernel_rfl, by kernel_rfl⟩ (opens_i Tryz.underlying3) (opens_slice Tryz.underlying30 (by kernel_rfl) (by kernel_rfl) (by decide) (opens_string Tryz.underlying9) lies_str) (opens_string Tryz.underlying9)) h1 (sized_arg hsz (j := 1) (t := 32) (d := d1) rfl rfl)
  obtain ⟨z1, rfl, -⟩ := okWide_struct Tryz.underlying32 (hval 1 32 v1 rfl rfl)
  have e1 : VColl W z1.toList a1 := e1
  refine (CollectRuns_walk W z0 a0 z1 a1 e0 e1 ((Nat.le_trans (bulk_coll Tryz.underlying32 rfl (by kernel_rfl) Tryz.underlying30 e1 k1) (Nat.le_trans (bulk_small hk (by simp)) (by decide))))).mono fun e W' ⟨he, bel⟩ => ?_
  subst he
  exact ⟨_, rfl, _, _, _, [], _, [], hW', trodAll_mk1 (shut_bool Tryz.underlying4 _), (trodAll_cons_mk (Below.trod laidOut (by kernel_rfl) (of_decide_eq_true (by kernel_rfl)) k0 bel lt0) (trodAll_cons_mk (Below.trod laidOut (by kernel_rfl) (of_decide_eq_true (by kernel_rfl)) k1 bel lt1) trodAll_mk0)), rfl, bel.frame _, fun h => by cases h⟩

set_option maxRecDepth 100000 in
theorem lifted (os : Os) (started : os.Started) (H : Type) (enc : TypeId × Value → H) (F : Stop.Interp) :
    ReturnsInHanded {} Tryz.checked os 6 .any ((Rows.OpenSpec.upto Rows.collectRunsSpec).pre6 enc Tryz.prog Tryz.f6 Rows.collectRunsUptoRow.domain false) (((Rows.OpenSpec.upto Rows.collectRunsSpec).at F).post enc Tryz.prog Tryz.f6 false true false false) := by
  refine returnsInHanded_of_cond_sized (C := Tryz.checked) (s := Rows.OpenSpec.upto Rows.collectRunsSpec) (k := Rows.uptoSmall) rfl own started (by kernel_rfl) Tryz.func6
    (OpenSpec.witness (enc := enc) (C := Tryz.checked) (s := Rows.OpenSpec.upto Rows.collectRunsSpec) (k := Rows.uptoSmall) rfl false ⟨#[], #[.agg #[.slice none 0 0, .slice none 0 0, .int .i64 0, .int .i64 0], .agg #[.int .i64 0, .slice none 0 0, .string ⟨#[]⟩]], []⟩ 8 (by kernel_rfl) (by kernel_rfl) (by kernel_rfl)
      (x := ([.agg [.nil, .nil, .lit (.int .i64 0), .lit (.int .i64 0)], .agg [.lit (.int .i64 0), .nil, .lit (.string [])]], [], [])) (by kernel_rfl) rfl (by kernel_rfl)) ?_
  intro W base args ds gs before hval hW _ hk hsz _
  exact contract H enc W base args ds gs before hval hW hsz hk

theorem named : Tryz.pinned.checked.prog.funcNamed Rows.collectRunsUptoRow.func = some 6 := by kernel_rfl
theorem inst : Tryz.f6.isInstance Tryz.pinned.checked.prog Rows.collectRunsUptoRow.origin Rows.collectRunsUptoRow.targs := of_decide_eq_true (by kernel_rfl)
theorem wrap : Tryz.f6.isWrapper Tryz.pinned.checked.prog Rows.collectRunsUptoRow.wrapper Rows.collectRunsUptoRow.mainSum := by
  unfold Func.isWrapper; rw [if_neg (by decide +kernel)]; exact ⟨rfl, rfl⟩
theorem inPlace : (Rows.collectRunsUptoRow.inPlace == Tryz.prog.inPlace 6) = true := by kernel_rfl
theorem unfollowed : (Rows.collectRunsUptoRow.unfollowed == Tryz.prog.unfollowed 6) = true := by kernel_rfl
theorem recurses : (Rows.collectRunsUptoRow.recurses == Tryz.prog.recurses 6) = true := by kernel_rfl
theorem varsNamed : (Rows.collectRunsUptoRow.named == Tryz.prog.varsNamed 6) = true := by kernel_rfl
theorem closed : joinedFacts Tryz.prog 6 Tryz.f6 (Rows.OpenSpec.upto Rows.collectRunsSpec).bare Rows.collectRunsUptoRow = true :=
  joined (by kernel_rfl) (by kernel_rfl) (by kernel_rfl) (by kernel_rfl) (by kernel_rfl) inPlace unfollowed recurses varsNamed (by kernel_rfl) (by kernel_rfl) (by kernel_rfl) (by kernel_rfl) (by kernel_rfl) (by kernel_rfl) (by kernel_rfl) (by kernel_rfl) (by kernel_rfl)
    rfl (by kernel_rfl) rfl rfl (by kernel_rfl) (by kernel_rfl) (by kernel_rfl) (by kernel_rfl)

theorem over : Rows.collectRunsUptoRow.holds Tryz.pinned (Rows.OpenSpec.upto Rows.collectRunsSpec) :=
  OpenClaim.holds_of_cond 6 Tryz.f6 rfl rfl rfl rfl rfl rfl rfl ⟨rfl, rfl, rfl, rfl, rfl⟩ rfl rfl rfl rfl rfl named Tryz.func6 closed inst wrap
    (fun os started H enc _ F => lifted os started H enc F)

theorem proved : Rows.CollectRunsUptoSaid := over
end Go.Proofs.YtpcnhldlfmdlhaaGreat.collectRuns
