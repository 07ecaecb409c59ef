import Derived.Test.YtpkpgehiplhkpaaGreatTzPlT
import Derived.Deep.CutBlock
namespace Go.Proofs.YtpkpgehiplhkpaaGreat
open Go.RowKit
theorem qzkyb_7 {P : Prop} (h : P := by simp) : P := h
theorem qzkyb_6 {P : Prop} (h : P := by kernel_rfl) : P := h
theorem qzkyb_5 {P : Prop} (h : P := by intro w hS; obtain ⟨s0, s1, s3⟩ := hS; go_simp) : P := h
theorem qzkyb_1 {P : Prop} (h : P := by
 (try simp only [Act.put, List.setIfInBounds_toArray, List.set_cons_zero, List.set_cons_succ])
 refine wpT_take (i := 15) (v := .agg #[.string (⟨#[105]⟩ ++ sb7), .string y.digest, .int .i64 y.size]) rfl qzkyb_6 (fun _ _ _ h => h) (Or.inl ⟨by rfl, ?_⟩) (hKS.out _ hb.out) ?_
 · intro w hS; obtain ⟨s0, s1, s3⟩ := hS; go_simp
 (try simp only [Act.put, List.setIfInBounds_toArray, List.set_cons_zero, List.set_cons_succ])
 rw [hnm.out]
 refine wpT_ready (rs := [16]) qzkyb_6 qzkyb_7 ?_
 refine AllT.cons rfl (fun K hK => ?_) AllT.nil
 go_simp
 refine hK.out _ _ (fun _ => hKS.out _ (b_alloc hb.out _)) ?_
 clear hK
 (try simp only [Act.put, List.setIfInBounds_toArray, List.set_cons_zero, List.set_cons_succ])
 refine wpT_ready (rs := [17]) qzkyb_6 qzkyb_7 ?_
 refine AllT.cons rfl (fun K hK => ?_) AllT.nil
 have hXw := stays hb.out hX6.out
 have hX7w := stays hb.out hX7.out
 have hOw := OS.below hO6.out hb.out
 refine stepL_append (s := 3) (bs := 40) flat_part (by rfl) (.tmp 38) (.tmp 53) 42 (by rfl) 67 i0 _ Tryz.underlying42 ii0 jz0 jz1 jz2 rfl (q5 + 1) _ (insK l m) (by rfl) (OS.below hOw (b_alloc (Below.refl _ _) (Obj.cells #[.string y.name, .string y.digest, .int .i64 y.size] 67))) _ [y] (by rfl) (rp_lit _ _ y _ rfl hys.out.1 hys.out.2.1 hys.out.2.2) (by have := hl4.out; simp; omega) (by have := hl4.out; simp [maxLen]; omega) (by have := heap_lt hXw; simp; omega) ?_
 intro v9 W9 hO9 hg9
 obtain ⟨a9, c9, rfl⟩ := os_len hO9
 rw [List.length_append] at hO9
 obtain ⟨hS9, hf9⟩ := ky_S hXw hX7w hOw hg9 rfl
 refine hK.out _ _ (fun _ => hS9) ?_
 clear hK
 (try simp only [Act.put, List.setIfInBounds_toArray, List.set_cons_zero, List.set_cons_succ])
 refine wpT_take (i := 18) (v := .pointer (some ⟨q5, 1, none⟩)) rfl qzkyb_6 (fun _ _ _ h => h) (Or.inl ⟨by rfl, ?_⟩) hS9 ?_
 · intro w hS; obtain ⟨s0, s1, s3⟩ := hS; go_simp
 (try simp only [Act.put, List.setIfInBounds_toArray, List.set_cons_zero, List.set_cons_succ])
 refine wpT_ready (rs := [19]) qzkyb_6 qzkyb_7 ?_
 refine AllT.cons rfl (fun K hK => ?_) AllT.nil
 obtain ⟨s9, -, -⟩ := hS9
 go_simp
 refine hK.out _ _ (fun h => absurd h (by decide)) ?_
 clear hK
 (try simp only [Act.put, List.setIfInBounds_toArray, List.set_cons_zero, List.set_cons_succ])
 refine wpT_done qzkyb_6 ?_ _
 (try go_wp2_with fail)
 go_meet
 rw [hnx.out, hy.out]
 exact ky_mid hq5 (b_call hb6.out hb.out) hXw hOw hg9 hO9) : P := h
theorem qzkyb_4 {P : Prop} (h : P := by
 refine wpT_ready (rs := [14]) qzkyb_6 qzkyb_7 ?_
 refine AllT.cons rfl (fun K hK => ?_) AllT.nil
 go_simp
 ((with_reducible refine (hpx.out _).mono ?_); rintro e W ⟨rfl, rfl⟩)
 (try go_wp2_with fail)
 refine hK.out _ _ (fun _ => hKS.out _ hb.out) ?_
 clear hK
 exact qzkyb_1) : P := h
theorem qzkyb_3 {P : Prop} (h : P := by
 refine wpT_ready (rs := [6]) qzkyb_6 qzkyb_7 ?_
 refine AllT.cons rfl (fun K hK => ?_) AllT.nil
 have cv := run_string_of 41 5 Tryz.underlying41 Tryz.underlying5 9 Tryz.underlying9 r5.out
 rw [hsb7.out] at cv
 go_simp
 refine hK.out _ _ (fun _ => hKS.out _ hb.out) ?_
 clear hK cv
 (try simp only [Act.put, List.setIfInBounds_toArray, List.set_cons_zero, List.set_cons_succ])
 refine wpT_take (i := 7) (v := .string (⟨#[105]⟩ ++ sb7)) rfl qzkyb_6 (fun _ _ _ h => h) (Or.inl ⟨by rfl, ?_⟩) (hKS.out _ hb.out) ?_
 · intro w hS; obtain ⟨s0, s1, s3⟩ := hS; go_simp
 exact qzkyb_1) : P := h
theorem qzkyb_2 {P : Prop} (h : P := by
 refine wpT_ready (rs := [6, 11]) qzkyb_6 qzkyb_7 ?_
 refine AllT.cons rfl (fun K hK => ?_) (AllT.cons rfl (fun K hK => ?_) AllT.nil)
 · have cv := run_string_of 41 5 Tryz.underlying41 Tryz.underlying5 9 Tryz.underlying9 r5.out
   rw [hsb7.out] at cv
   go_simp
   refine hK.out _ _ (fun _ => hKS.out _ hb.out) ?_
   clear hK cv
   (try simp only [Act.put, List.setIfInBounds_toArray, List.set_cons_zero, List.set_cons_succ])
   refine wpT_take (i := 7) (v := .string (⟨#[105]⟩ ++ sb7)) rfl qzkyb_6 (fun _ _ _ h => h) (Or.inl ⟨by rfl, ?_⟩) (hKS.out _ hb.out) ?_
   · intro w hS; obtain ⟨s0, s1, s3⟩ := hS; go_simp
   (try simp only [Act.put, List.setIfInBounds_toArray, List.set_cons_zero, List.set_cons_succ])
   refine wpT_ready (rs := [11]) qzkyb_6 qzkyb_7 ?_
   refine AllT.cons rfl (fun K hK => ?_) AllT.nil
   go_simp
   ((with_reducible refine (hdx.out _ _ r10.out).mono ?_); rintro e W ⟨rfl, b1⟩)
   replace b1 := hid b1
   (try go_wp2_with fail)
   have hb := hid (b_call hb.out b1.out)
   refine hK.out _ _ (fun _ => hKS.out _ hb.out) ?_
   clear hK
   (try simp only [Act.put, List.setIfInBounds_toArray, List.set_cons_zero, List.set_cons_succ])
   clear b1
   refine wpT_ready (rs := [14]) qzkyb_6 qzkyb_7 ?_
   refine AllT.cons rfl (fun K hK => ?_) AllT.nil
   go_simp
   ((with_reducible refine (hpx.out _).mono ?_); rintro e W ⟨rfl, rfl⟩)
   (try go_wp2_with fail)
   refine hK.out _ _ (fun _ => hKS.out _ hb.out) ?_
   clear hK
   exact qzkyb_1
 · go_simp
   ((with_reducible refine (hdx.out _ _ r10.out).mono ?_); rintro e W ⟨rfl, b1⟩)
   replace b1 := hid b1
   (try go_wp2_with fail)
   have hb := hid (b_call hb.out b1.out)
   refine hK.out _ _ (fun _ => hKS.out _ hb.out) ?_
   clear hK
   (try simp only [Act.put, List.setIfInBounds_toArray, List.set_cons_zero, List.set_cons_succ])
   have r5 := hid (r5.out.mono EU8.stable b1.out)
   clear b1
   refine wpT_ready (rs := [6, 14]) qzkyb_6 qzkyb_7 ?_
   refine AllT.cons rfl (fun K hK => ?_) (AllT.cons rfl (fun K hK => ?_) AllT.nil)
   · have cv := run_string_of 41 5 Tryz.underlying41 Tryz.underlying5 9 Tryz.underlying9 r5.out
     rw [hsb7.out] at cv
     go_simp
     refine hK.out _ _ (fun _ => hKS.out _ hb.out) ?_
     clear hK cv
     (try simp only [Act.put, List.setIfInBounds_toArray, List.set_cons_zero, List.set_cons_succ])
     refine wpT_take (i := 7) (v := .string (⟨#[105]⟩ ++ sb7)) rfl qzkyb_6 (fun _ _ _ h => h) (Or.inl ⟨by rfl, ?_⟩) (hKS.out _ hb.out) ?_
     · intro w hS; obtain ⟨s0, s1, s3⟩ := hS; go_simp
     (try simp only [Act.put, List.setIfInBounds_toArray, List.set_cons_zero, List.set_cons_succ])
     refine wpT_ready (rs := [14]) qzkyb_6 qzkyb_7 ?_
     refine AllT.cons rfl (fun K hK => ?_) AllT.nil
     go_simp
     ((with_reducible refine (hpx.out _).mono ?_); rintro e W ⟨rfl, rfl⟩)
     (try go_wp2_with fail)
     refine hK.out _ _ (fun _ => hKS.out _ hb.out) ?_
     clear hK
     exact qzkyb_1
   · go_simp
     ((with_reducible refine (hpx.out _).mono ?_); rintro e W ⟨rfl, rfl⟩)
     (try go_wp2_with fail)
     refine hK.out _ _ (fun _ => hKS.out _ hb.out) ?_
     clear hK
     (try simp only [Act.put, List.setIfInBounds_toArray, List.set_cons_zero, List.set_cons_succ])
     refine wpT_ready (rs := [6]) qzkyb_6 qzkyb_7 ?_
     refine AllT.cons rfl (fun K hK => ?_) AllT.nil
     have cv := run_string_of 41 5 Tryz.underlying41 Tryz.underlying5 9 Tryz.underlying9 r5.out
     rw [hsb7.out] at cv
     go_simp
     refine hK.out _ _ (fun _ => hKS.out _ hb.out) ?_
     clear hK cv
     (try simp only [Act.put, List.setIfInBounds_toArray, List.set_cons_zero, List.set_cons_succ])
     refine wpT_take (i := 7) (v := .string (⟨#[105]⟩ ++ sb7)) rfl qzkyb_6 (fun _ _ _ h => h) (Or.inl ⟨by rfl, ?_⟩) (hKS.out _ hb.out) ?_
     · intro w hS; obtain ⟨s0, s1, s3⟩ := hS; go_simp
     exact qzkyb_1) : P := h
def KyMid (w : World) (q : Nat) (cmd : ByteArray) (ps : List Part) (wx : World) : Prop :=
 ∃ v, wx.heap[q]? = some (.cells #[.string cmd, v] 82 (0, 0)) ∧ OS 67 3 cPart wx (q + 1) v ps ∧ Below w.heap.size w wx
theorem conv_one (W : World) (q k : Nat) (hq : q = W.heap.size) (hk : k < 256) : (convert 41 9 (.slice (some ⟨q, 0, none⟩) 1 1)).run Tryz.prog (W.alloc (.cells #[.int .u8 (k : Int)] 5)) = .ok (.string (bstr [UInt8.ofNat k])) (W.alloc (.cells #[.int .u8 (k : Int)] 5)) :=
 run_string_of 41 5 Tryz.underlying41 Tryz.underlying5 9 Tryz.underlying9 (one_u8 W 5 (k : Int) (UInt8.ofNat k) _ hq (by rw [UInt8.toNat_ofNat']; omega))
theorem ri_two (w : World) (k : Nat) (hk : k = w.heap.size) : RI (w.alloc (.cells #[.int .i64 1, .int .i64 2] 3)) (.slice (some ⟨k, 0, none⟩) 2 2) [1, 2] := by
 subst hk
 refine ⟨_, _, rfl, Nat.le_refl _, by simp [maxLen], (show 2 * 8 ≤ 140737488351232 by decide), fun h => by simp at h, fun j y hj => ⟨w.heap.size, 0, rfl, by simp, ?_⟩⟩
 have hc := fun o => cell_of_row (w.alloc (.cells #[.int .i64 1, .int .i64 2] 3)) w.heap.size o _ 3 _ (heap_alloc_new w _)
 have hj2 : j < 2 := (List.getElem?_eq_some_iff.1 hj).1
 obtain rfl | rfl : j = 0 ∨ j = 1 := by omega
 · simp only [List.getElem?_cons_zero, Option.some.injEq] at hj
   subst hj
   exact ⟨hc 0, by decide⟩
 simp only [List.getElem?_cons_succ, List.getElem?_cons_zero, Option.some.injEq] at hj
 subst hj
 exact ⟨hc 1, by decide⟩
theorem os_len {α : Type} {e : TypeId} {s : Nat} {cells : α → List Value} {w : World} {B : Nat} {v : Value} {R : List α} (h : OS e s cells w B v R) : ∃ a c, v = .slice a R.length c := by
 rcases os_forms' h with ⟨rfl, rfl⟩ | ⟨g, c, rfl, -⟩
 · exact ⟨none, 0, rfl⟩
 exact ⟨_, _, rfl⟩
theorem act_set {w : World} {q : Nat} {a b u : Value} {T : TypeId} (h : w.heap[q]? = some (.cells #[a, b] T (0, 0))) : (w.setCell ⟨q, 1, none⟩ u).heap[q]? = some (.cells #[a, u] T (0, 0)) := by
 simp [World.setCell, Array.getElem?_modify, h]
theorem ky_mid {w W W3 : World} {q : Nat} {v v' : Value} {P0 PP : List Part} {cmd : ByteArray} {o : Obj} (hq : w.heap.size ≤ q) (hbw : Below w.heap.size w W) (hX : W.heap[q]? = some (.cells #[.string cmd, v] 82 (0, 0)))
 (hO : OS 67 3 cPart W (q + 1) v P0) (hg : (W.alloc o).grownBy W3 v.ownBlock) (hO3 : OS 67 3 cPart W3 (q + 1) v' PP) : KyMid w q cmd PP (W3.setCell ⟨q, 1, none⟩ v') := by
 have hX2 : (W.alloc o).heap[q]? = _ := alloc_keep hX
 have hO2 := OS.below hO (b_alloc (Below.refl _ W) o)
 have hne := OS.block_ne hO2 hX2 (by decide)
 have hX3 : W3.heap[q]? = _ := (hg.block q (heap_lt hX2) (fun e => hne e.symm)).trans hX2
 refine ⟨v', act_set hX3, OS.setOld hO3 (Nat.lt_succ_self q), b_set (b_grown (b_alloc hbw o) hg (fun k hk => ?_)) hq _⟩
 have := World.ownsRow.lt hO2 k hk
 omega
theorem ky_S {W W3 : World} {q q7 : Nat} {v v0 : Value} {P0 : List Part} {cmd tx : ByteArray} {k a b : Int} {o : Obj} (hX : W.heap[q]? = some (.cells #[.string cmd, v] 82 (0, 0))) (hX7 : W.heap[q7]? = some (.cells #[.int .i64 k, .int .i64 a, .int .i64 b, .string tx] 53 (0, 0)))
 (hO : OS 67 3 cPart W (q + 1) v P0) (hg : (W.alloc o).grownBy W3 v.ownBlock) (hv : v = v0) :
 (W3.cell? ⟨q, 1, none⟩ = some v0 ∧ W3.cell? ⟨q7, 1, none⟩ = some (.int .i64 a) ∧ W3.cell? ⟨q7, 3, none⟩ = some (.string tx)) ∧ W3.frozen? ⟨q, 1, none⟩ = false := by
 subst hv
 have hX2 : (W.alloc o).heap[q]? = _ := alloc_keep hX
 have hX72 : (W.alloc o).heap[q7]? = _ := alloc_keep hX7
 have hO2 := OS.below hO (b_alloc (Below.refl _ W) o)
 have hX3 : W3.heap[q]? = _ := (hg.block q (heap_lt hX2) (fun e => OS.block_ne hO2 hX2 (by decide) e.symm)).trans hX2
 have hX73 : W3.heap[q7]? = _ := (hg.block q7 (heap_lt hX72) (fun e => OS.block_ne hO2 hX72 (by decide) e.symm)).trans hX72
 exact ⟨⟨cell_of_row _ _ 1 _ _ _ hX3, cell_of_row _ _ 1 _ _ _ hX73, cell_of_row _ _ 3 _ _ _ hX73⟩, frozen_heap hX3 1⟩
set_option maxRecDepth 100000 in
set_option maxHeartbeats 8000000 in
theorem TopKeyed_walk' (r : RawT) (v : Value) (l : List RawT) (w : World) (hl : RRw w v l) (hwf : (Lit.int .i64 r.a).wf = true) (htx : ∀ x ∈ l, x.text.size ≤ 1048576) :
 Calls Tryz.prog 10 #[.agg #[.int .i64 r.kind, .int .i64 r.a, .int .i64 r.b, .string r.text], v] w fun e w' => e = .returned (.bool true) ∧ Below w.heap.size w w' := by
 have hd := hid fun v b w h hb => keep_Digest v b w h hb
 have hpr := pick_range r.a 26 (by decide)
 have hp1 := hid fun w => keep_Picked r.a 26 w hwf (by decide) (by decide)
 obtain ⟨k, hk⟩ : ∃ k : Nat, pick r.a 26 = (k : Int) := ⟨(pick r.a 26).toNat, by omega⟩
 rw [hk] at hp1 hpr
 have hk26 : k < 26 := by omega
 clear hk hpr hwf
 have hR := hid hl
 have hmx : l.length ≤ 140737488355328 := by obtain ⟨_, _, _, _, _, hre, _⟩ := hl; omega
 obtain ⟨va, vc, rfl, -⟩ := hl
 have hcz := hid (cmd_ok k hk26).2
 have hcv := conv_one (w.alloc (Obj.cells #[.int .i64 r.kind, .int .i64 r.a, .int .i64 r.b, .string r.text] 53)) (w.heap.size + 1) (97 + k) qzkyb_7 (by omega)
 rw [show ((97 + k : Nat) : Int) = 97 + (k : Int) by omega] at hcv
 have hcs : Hid (⟨#[109, 97, 107, 101]⟩ ++ bstr [UInt8.ofNat (97 + k)] = cmdS k) := hid rfl
 have hz1 : (bstr [UInt8.ofNat (97 + k)]).size = 1 := rfl
 generalize bstr [UInt8.ofNat (97 + k)] = sb at *
 replace htx := hid htx
 go_enter Tryz.func10, Tryz.ntmps10
 go_wp2_with fail
 ((with_reducible refine (hp1.out _).mono ?_); rintro e w1 ⟨rfl, rfl⟩)
 go_upto_region 2 with fail
 rw [hcs.out]
 have hM := hid (⟨.slice none 0 0, heap_put ((w.alloc (Obj.cells #[.int .i64 r.kind, .int .i64 r.a, .int .i64 r.b, .string r.text] 53)).alloc (Obj.cells #[.int .u8 (97 + (k : Int))] 5)) (Obj.cells #[.string (cmdS k), .slice none 0 0] 82) (w.heap.size + 1 + 1) qzkyb_7, OS.nil, b_alloc (b_alloc (b_alloc (Below.refl _ _) _) _) _⟩ : KyMid w (w.heap.size + 1 + 1) (cmdS k) (insK l 0) (((w.alloc (Obj.cells #[.int .i64 r.kind, .int .i64 r.a, .int .i64 r.b, .string r.text] 53)).alloc (Obj.cells #[.int .u8 (97 + (k : Int))] 5)).alloc (Obj.cells #[.string (cmdS k), .slice none 0 0] 82)))
 generalize ((w.alloc (Obj.cells #[.int .i64 r.kind, .int .i64 r.a, .int .i64 r.b, .string r.text] 53)).alloc (Obj.cells #[.int .u8 (97 + (k : Int))] 5)).alloc (Obj.cells #[.string (cmdS k), .slice none 0 0] 82) = w2 at *
 have hq5 : w.heap.size ≤ w.heap.size + 1 + 1 := by omega
 generalize w.heap.size + 1 + 1 = q5 at *
 clear hcv hz1 hcs
 go_wp2_with fail
 go_loopw [6, 7, 30] (fun _ _ i wr => ∃ m : Nat, i = .int .i64 (m : Int) ∧ m ≤ l.length ∧ Hid (KyMid w q5 (cmdS k) (insK l m) wr)) (fun _ _ i _ => l.length - (intOf i).toNat)
 case atStart => exact ⟨0, rfl, by omega, hM⟩
 obtain ⟨m, rfl, hm, hmid⟩ := hrel
 obtain ⟨vv, hX, hO, hb⟩ := hmid.out
 obtain ⟨a, c, rfl⟩ := os_len hO
 by_cases hlt : m < l.length
 · obtain ⟨x, hx⟩ : ∃ x, l[m]? = some x := ⟨_, List.getElem?_eq_getElem hlt⟩
   have hxt := hid (htx.out x (List.mem_of_getElem? hx))
   obtain ⟨bb, off, ha, hbb, he⟩ : ∃ bb off, va = some ⟨bb, off, none⟩ ∧ bb < wr.heap.size ∧ ERawT wr bb (off + m * 4) x := by
    obtain ⟨_, _, hv, _, _, _, _, hat⟩ := (hR.out.mono ERawT.stable hb)
    simp only [Value.slice.injEq] at hv
    obtain ⟨rfl, -, -⟩ := hv
    exact hat m x hx
   subst ha
   obtain ⟨e0, e1, e2, e3, -, hwa, -, htz⟩ := he
   replace htz := hid htz
   replace hx := hid hx
   replace hwa := hid hwa
   replace hX := hid hX
   replace hO := hid hO
   replace hb := hid hb
   have hl4 : (insK l m).length ≤ 4 := insK_len l m
   obtain ⟨i0, ii0, jz0, jz1, jz2⟩ := info_parts info_part
   replace hl4 := hid hl4
   go_upto_block 1 with (fail)
   go_cut [37] (fun _ wx => KyMid w q5 (cmdS k) (insK l (m + 1)) wx)
   case first =>
    go_upto_if 36 with (fail)
    have hX7 := hid (heap_alloc_new wr (Obj.cells #[.int .i64 x.kind, .int .i64 x.a, .int .i64 x.b, .string x.text] 53))
    have hX6 := hid (alloc_keep (o := Obj.cells #[.int .i64 x.kind, .int .i64 x.a, .int .i64 x.b, .string x.text] 53) hX.out)
    have hO6 := hid (OS.below hO.out (b_alloc (Below.refl _ wr) (Obj.cells #[.int .i64 x.kind, .int .i64 x.a, .int .i64 x.b, .string x.text] 53)))
    have hb6 := hid (b_alloc hb.out (Obj.cells #[.int .i64 x.kind, .int .i64 x.a, .int .i64 x.b, .string x.text] 53))
    generalize wr.alloc (Obj.cells #[.int .i64 x.kind, .int .i64 x.a, .int .i64 x.b, .string x.text] 53) = W0 at *
    generalize wr.heap.size = q7 at *
    clear e0 e1 e2 e3
    have x61 : W0.cell? ⟨q5, 1, none⟩ = some (.slice a (insK l m).length c) := cell_of_row _ _ 1 _ _ _ hX6.out
    obtain ⟨-, x71, -, x73⟩ := box4f hX7.out
    have hKS : Hid (∀ W', Below W0.heap.size W0 W' → W'.cell? ⟨q5, 1, none⟩ = some (.slice a (insK l m).length c) ∧ W'.cell? ⟨q7, 1, none⟩ = some (.int .i64 x.a) ∧ W'.cell? ⟨q7, 3, none⟩ = some (.string x.text)) := hid (fun W' hB => ⟨cell_stays hB (heap_lt hX6.out) x61, cell_stays hB (heap_lt hX7.out) x71, cell_stays hB (heap_lt hX7.out) x73⟩)
    clear x61 x71 x73
    by_cases h4 : m < 4
    · have hnx := hid (insK_next hx.out h4)
      have hm8 := hid (show (97 + (m : Int)) = ((UInt8.ofNat (97 + m)).toNat : Int) by rw [UInt8.toNat_ofNat']; omega)
      obtain ⟨sb7, hsb7⟩ : ∃ s : ByteArray, Hid (bstr [UInt8.ofNat (97 + m)] = s) := ⟨_, hid rfl⟩
      have hz7 : sb7.size = 1 := by rw [← hsb7.out]; rfl
      obtain ⟨y, hy⟩ : ∃ y : Part, Hid (inPart m x = y) := ⟨_, hid rfl⟩
      have hnm : Hid (⟨#[105]⟩ ++ sb7 = y.name) := hid (by rw [← hsb7.out, ← hy.out]; rfl)
      have hdx : Hid (∀ v w, RB w v x.text.data.toList → Calls Tryz.prog 15 #[v] w fun e w' => e = .returned (.string y.digest) ∧ Below w.heap.size w w') := hid (fun v w h => by rw [← hy.out]; exact hd.out v _ w h (by have := hxt.out; rw [Array.length_toList]; exact Nat.le_trans this (by decide)))
      have hpx : Hid (∀ w, Calls Tryz.prog 13 #[.int .i64 x.a, .int .i64 301] w fun e w' => e = .returned (.int .i64 y.size) ∧ w' = w) := hid (fun w => by rw [← hy.out]; exact keep_Picked x.a 301 w hwa.out (by decide) (by decide))
      have hys : Hid (y.name.size ≤ 140737488351232 ∧ y.digest.size ≤ 140737488351232 ∧ (Lit.int .i64 y.size).wf = true) := hid (by
       rw [← hy.out]
       have h1 := pick_range x.a 301 (by decide)
       refine ⟨by show (nmS m).size ≤ _; rw [(nm_ok m h4).2]; decide, by show (digS _).size ≤ _; rw [digS_size]; decide, ?_⟩
       show (Lit.int .i64 (pick x.a 301)).wf = true
       simp [Lit.wf, IntKind.min, IntKind.max, IntKind.signed, IntKind.bits]
       omega)
      go_upto_region 6 with fail
      have hi6 : IntKind.i64.wrap (97 + (m : Int)) = 97 + (m : Int) := IntWalk.i64_in _ (by omega)
      have hi8 : IntKind.u8.wrap (97 + (m : Int)) = 97 + (m : Int) := IntWalk.u8_in _ (by omega)
      refine wp_region_T (S := fun W' => W'.cell? ⟨q5, 1, none⟩ = some (.slice a (insK l m).length c) ∧ W'.cell? ⟨q7, 1, none⟩ = some (.int .i64 x.a) ∧ W'.cell? ⟨q7, 3, none⟩ = some (.string x.text)) (n := 19) qzkyb_6 ?_
      have hb := hid ((Below.refl W0.heap.size W0).drew)
      generalize W0.drew = W at hb ⊢
      refine wpT_take (i := 0) (v := .pointer (some ⟨q5, 1, none⟩)) rfl qzkyb_6 (fun _ _ _ h => h) (Or.inl ⟨by rfl, ?_⟩) (hKS.out _ hb.out) ?_
      · exact qzkyb_5
      (try simp only [Act.put, List.setIfInBounds_toArray, List.set_cons_zero, List.set_cons_succ])
      refine wpT_take (i := 1) (v := .slice a (insK l m).length c) rfl qzkyb_6 (fun _ _ _ h => h) (Or.inl ⟨by rfl, ?_⟩) (hKS.out _ hb.out) ?_
      · exact qzkyb_5
      (try simp only [Act.put, List.setIfInBounds_toArray, List.set_cons_zero, List.set_cons_succ])
      refine wpT_take (i := 2) (v := .int .i64 (m : Int)) rfl qzkyb_6 (fun _ _ _ h => h) (Or.inl ⟨by rfl, ?_⟩) (hKS.out _ hb.out) ?_
      · exact qzkyb_5
      (try simp only [Act.put, List.setIfInBounds_toArray, List.set_cons_zero, List.set_cons_succ])
      refine wpT_take (i := 3) (v := .int .i64 (97 + (m : Int))) rfl qzkyb_6 (fun _ _ _ h => h) (Or.inl ⟨by rfl, ?_⟩) (hKS.out _ hb.out) ?_
      · exact qzkyb_5
      (try simp only [Act.put, List.setIfInBounds_toArray, List.set_cons_zero, List.set_cons_succ])
      refine wpT_take (i := 4) (v := .int .u8 (97 + (m : Int))) rfl qzkyb_6 (fun _ _ _ h => h) (Or.inl ⟨by rfl, ?_⟩) (hKS.out _ hb.out) ?_
      · exact qzkyb_5
      (try simp only [Act.put, List.setIfInBounds_toArray, List.set_cons_zero, List.set_cons_succ])
      refine wpT_take (i := 8) (v := .pointer (some ⟨q7, 3, none⟩)) rfl qzkyb_6 (fun _ _ _ h => h) (Or.inl ⟨by rfl, ?_⟩) (hKS.out _ hb.out) ?_
      · exact qzkyb_5
      (try simp only [Act.put, List.setIfInBounds_toArray, List.set_cons_zero, List.set_cons_succ])
      refine wpT_take (i := 9) (v := .string x.text) rfl qzkyb_6 (fun _ _ _ h => h) (Or.inl ⟨by rfl, ?_⟩) (hKS.out _ hb.out) ?_
      · exact qzkyb_5
      (try simp only [Act.put, List.setIfInBounds_toArray, List.set_cons_zero, List.set_cons_succ])
      refine wpT_take (i := 12) (v := .pointer (some ⟨q7, 1, none⟩)) rfl qzkyb_6 (fun _ _ _ h => h) (Or.inl ⟨by rfl, ?_⟩) (hKS.out _ hb.out) ?_
      · exact qzkyb_5
      (try simp only [Act.put, List.setIfInBounds_toArray, List.set_cons_zero, List.set_cons_succ])
      refine wpT_take (i := 13) (v := .int .i64 x.a) rfl qzkyb_6 (fun _ _ _ h => h) (Or.inl ⟨by rfl, ?_⟩) (hKS.out _ hb.out) ?_
      · exact qzkyb_5
      (try simp only [Act.put, List.setIfInBounds_toArray, List.set_cons_zero, List.set_cons_succ])
      refine wpT_ready (rs := [5, 10]) qzkyb_6 qzkyb_7 ?_
      refine AllT.cons rfl (fun K hK => ?_) (AllT.cons rfl (fun K hK => ?_) AllT.nil)
      · go_simp
        refine hK.out _ _ (fun _ => hKS.out _ (b_alloc hb.out _)) ?_
        clear hK
        (try simp only [Act.put, List.setIfInBounds_toArray, List.set_cons_zero, List.set_cons_succ])
        have r5 := hid (one_u8 W 5 (97 + (m : Int)) (UInt8.ofNat (97 + m)) _ rfl hm8.out)
        have hb := hid (b_alloc hb.out (.cells #[.int .u8 (97 + (m : Int))] 5))
        generalize W.heap.size = q0 at r5 ⊢
        generalize W.alloc (.cells #[.int .u8 (97 + (m : Int))] 5) = W at *
        refine wpT_ready (rs := [6, 10]) qzkyb_6 qzkyb_7 ?_
        refine AllT.cons rfl (fun K hK => ?_) (AllT.cons rfl (fun K hK => ?_) AllT.nil)
        · have cv := run_string_of 41 5 Tryz.underlying41 Tryz.underlying5 9 Tryz.underlying9 r5.out
          rw [hsb7.out] at cv
          go_simp
          refine hK.out _ _ (fun _ => hKS.out _ hb.out) ?_
          clear hK cv
          (try simp only [Act.put, List.setIfInBounds_toArray, List.set_cons_zero, List.set_cons_succ])
          refine wpT_take (i := 7) (v := .string (⟨#[105]⟩ ++ sb7)) rfl qzkyb_6 (fun _ _ _ h => h) (Or.inl ⟨by rfl, ?_⟩) (hKS.out _ hb.out) ?_
          · exact qzkyb_5
          (try simp only [Act.put, List.setIfInBounds_toArray, List.set_cons_zero, List.set_cons_succ])
          refine wpT_ready (rs := [10]) qzkyb_6 qzkyb_7 ?_
          refine AllT.cons rfl (fun K hK => ?_) AllT.nil
          have hcv := Lib.run_convert_string_bytes (P := Tryz.prog) W 9 41 5 x.text Tryz.underlying9 Tryz.underlying41 Tryz.underlying5
          have r10 := conv_reads W 5 x.text htz.out
          have hbl := conv_below W 5 x.text
          generalize grownCap W x.text.size 0 5 = c1 at hcv r10
          generalize W.heap.size = q1 at hcv r10
          generalize Lib.bytesWorld W 5 x.text = W at hcv r10 hbl
          replace r10 := hid r10
          replace hbl := hid hbl
          go_simp
          have hb := hid (b_call hb.out hbl.out)
          refine hK.out _ _ (fun _ => hKS.out _ hb.out) ?_
          clear hK hcv
          (try simp only [Act.put, List.setIfInBounds_toArray, List.set_cons_zero, List.set_cons_succ])
          clear hbl
          refine wpT_ready (rs := [11]) qzkyb_6 qzkyb_7 ?_
          refine AllT.cons rfl (fun K hK => ?_) AllT.nil
          go_simp
          ((with_reducible refine (hdx.out _ _ r10.out).mono ?_); rintro e W ⟨rfl, b1⟩)
          replace b1 := hid b1
          (try go_wp2_with fail)
          have hb := hid (b_call hb.out b1.out)
          refine hK.out _ _ (fun _ => hKS.out _ hb.out) ?_
          clear hK
          (try simp only [Act.put, List.setIfInBounds_toArray, List.set_cons_zero, List.set_cons_succ])
          clear b1
          exact qzkyb_4
        have hcv := Lib.run_convert_string_bytes (P := Tryz.prog) W 9 41 5 x.text Tryz.underlying9 Tryz.underlying41 Tryz.underlying5
        have r10 := conv_reads W 5 x.text htz.out
        have hbl := conv_below W 5 x.text
        generalize grownCap W x.text.size 0 5 = c1 at hcv r10
        generalize W.heap.size = q1 at hcv r10
        generalize Lib.bytesWorld W 5 x.text = W at hcv r10 hbl
        replace r10 := hid r10
        replace hbl := hid hbl
        go_simp
        have hb := hid (b_call hb.out hbl.out)
        refine hK.out _ _ (fun _ => hKS.out _ hb.out) ?_
        clear hK hcv
        (try simp only [Act.put, List.setIfInBounds_toArray, List.set_cons_zero, List.set_cons_succ])
        have r5 := hid (r5.out.mono EU8.stable hbl.out)
        clear hbl
        exact qzkyb_2
      have hcv := Lib.run_convert_string_bytes (P := Tryz.prog) W 9 41 5 x.text Tryz.underlying9 Tryz.underlying41 Tryz.underlying5
      have r10 := conv_reads W 5 x.text htz.out
      have hbl := conv_below W 5 x.text
      generalize grownCap W x.text.size 0 5 = c1 at hcv r10
      generalize W.heap.size = q1 at hcv r10
      generalize Lib.bytesWorld W 5 x.text = W at hcv r10 hbl
      replace r10 := hid r10
      replace hbl := hid hbl
      go_simp
      have hb := hid (b_call hb.out hbl.out)
      refine hK.out _ _ (fun _ => hKS.out _ hb.out) ?_
      clear hK hcv
      (try simp only [Act.put, List.setIfInBounds_toArray, List.set_cons_zero, List.set_cons_succ])
      clear hbl
      refine wpT_ready (rs := [5, 11]) qzkyb_6 qzkyb_7 ?_
      refine AllT.cons rfl (fun K hK => ?_) (AllT.cons rfl (fun K hK => ?_) AllT.nil)
      · go_simp
        refine hK.out _ _ (fun _ => hKS.out _ (b_alloc hb.out _)) ?_
        clear hK
        (try simp only [Act.put, List.setIfInBounds_toArray, List.set_cons_zero, List.set_cons_succ])
        have r5 := hid (one_u8 W 5 (97 + (m : Int)) (UInt8.ofNat (97 + m)) _ rfl hm8.out)
        have r10 := hid (r10.out.mono EU8.stable (b_alloc (Below.refl _ _) (Obj.cells #[.int .u8 (97 + (m : Int))] 5)))
        have hb := hid (b_alloc hb.out (.cells #[.int .u8 (97 + (m : Int))] 5))
        generalize W.heap.size = q0 at r5 ⊢
        generalize W.alloc (.cells #[.int .u8 (97 + (m : Int))] 5) = W at *
        exact qzkyb_2
      go_simp
      ((with_reducible refine (hdx.out _ _ r10.out).mono ?_); rintro e W ⟨rfl, b1⟩)
      replace b1 := hid b1
      (try go_wp2_with fail)
      have hb := hid (b_call hb.out b1.out)
      refine hK.out _ _ (fun _ => hKS.out _ hb.out) ?_
      clear hK
      (try simp only [Act.put, List.setIfInBounds_toArray, List.set_cons_zero, List.set_cons_succ])
      clear b1
      refine wpT_ready (rs := [5, 14]) qzkyb_6 qzkyb_7 ?_
      refine AllT.cons rfl (fun K hK => ?_) (AllT.cons rfl (fun K hK => ?_) AllT.nil)
      · go_simp
        refine hK.out _ _ (fun _ => hKS.out _ (b_alloc hb.out _)) ?_
        clear hK
        (try simp only [Act.put, List.setIfInBounds_toArray, List.set_cons_zero, List.set_cons_succ])
        have r5 := hid (one_u8 W 5 (97 + (m : Int)) (UInt8.ofNat (97 + m)) _ rfl hm8.out)
        have hb := hid (b_alloc hb.out (.cells #[.int .u8 (97 + (m : Int))] 5))
        generalize W.heap.size = q0 at r5 ⊢
        generalize W.alloc (.cells #[.int .u8 (97 + (m : Int))] 5) = W at *
        refine wpT_ready (rs := [6, 14]) qzkyb_6 qzkyb_7 ?_
        refine AllT.cons rfl (fun K hK => ?_) (AllT.cons rfl (fun K hK => ?_) AllT.nil)
        · have cv := run_string_of 41 5 Tryz.underlying41 Tryz.underlying5 9 Tryz.underlying9 r5.out
          rw [hsb7.out] at cv
          go_simp
          refine hK.out _ _ (fun _ => hKS.out _ hb.out) ?_
          clear hK cv
          (try simp only [Act.put, List.setIfInBounds_toArray, List.set_cons_zero, List.set_cons_succ])
          refine wpT_take (i := 7) (v := .string (⟨#[105]⟩ ++ sb7)) rfl qzkyb_6 (fun _ _ _ h => h) (Or.inl ⟨by rfl, ?_⟩) (hKS.out _ hb.out) ?_
          · exact qzkyb_5
          (try simp only [Act.put, List.setIfInBounds_toArray, List.set_cons_zero, List.set_cons_succ])
          exact qzkyb_4
        go_simp
        ((with_reducible refine (hpx.out _).mono ?_); rintro e W ⟨rfl, rfl⟩)
        (try go_wp2_with fail)
        refine hK.out _ _ (fun _ => hKS.out _ hb.out) ?_
        clear hK
        (try simp only [Act.put, List.setIfInBounds_toArray, List.set_cons_zero, List.set_cons_succ])
        exact qzkyb_3
      go_simp
      ((with_reducible refine (hpx.out _).mono ?_); rintro e W ⟨rfl, rfl⟩)
      (try go_wp2_with fail)
      refine hK.out _ _ (fun _ => hKS.out _ hb.out) ?_
      clear hK
      (try simp only [Act.put, List.setIfInBounds_toArray, List.set_cons_zero, List.set_cons_succ])
      refine wpT_ready (rs := [5]) qzkyb_6 qzkyb_7 ?_
      refine AllT.cons rfl (fun K hK => ?_) AllT.nil
      go_simp
      refine hK.out _ _ (fun _ => hKS.out _ (b_alloc hb.out _)) ?_
      clear hK
      (try simp only [Act.put, List.setIfInBounds_toArray, List.set_cons_zero, List.set_cons_succ])
      have r5 := hid (one_u8 W 5 (97 + (m : Int)) (UInt8.ofNat (97 + m)) _ rfl hm8.out)
      have hb := hid (b_alloc hb.out (.cells #[.int .u8 (97 + (m : Int))] 5))
      generalize W.heap.size = q0 at r5 ⊢
      generalize W.alloc (.cells #[.int .u8 (97 + (m : Int))] 5) = W at *
      exact qzkyb_3
    go_wp2_with fail
    go_meet
    rw [insK_stop h4]
    exact ⟨_, hX6.out, hO6.out, hb6.out⟩
   have hmid2 := hid hcut
   clear hX hO hb e0 e1 e2 e3 hl4
   go_wp2_with fail
   go_roundw
   case rel => exact ⟨m + 1, by go_num, by omega, hmid2⟩
   case measure => simp [intOf]; omega
 obtain rfl : m = l.length := by omega
 obtain ⟨hz, hdec, K, hK, hK64, hkey, hke⟩ := keyed_act l k hk26
 have hcs2 : (cmdS k).size ≤ 140737488351232 := by rw [hcz.out]; decide
 have rp0 := hid (reads_part hO (by have := insK_len l l.length; omega) (keyed_fits l))
 have kC : Hid (∀ v w, RP w v (insK l l.length) → Calls Tryz.prog 30 #[.agg #[.string (cmdS k), v]] w fun e w' => e = .returned (.tuple #[.string K, .int .i64 0]) ∧ Below w.heap.size w w') := hid (fun v w h => by
  have q := action_Key' (cmdS k) v (insK l l.length) w h _ _ _ _ (fun w g => action_Encode _ _ _ w hcs2 g) (fun v w g => sha_Sum v _ w g)
  rw [hz, hkey, hke] at q
  exact q)
 have eC : Hid (∀ v w, RP w v (insK l l.length) → Calls Tryz.prog 31 #[.agg #[.string (cmdS k), v]] w fun e w' => ∃ v', e = .returned (.tuple #[v', .int .i64 0]) ∧ RB w' v' (actRes (cmdS k) (insK l l.length)) ∧ Below w.heap.size w w') := hid (fun v w h => by
  have q := action_Encode (cmdS k) v (insK l l.length) w hcs2 h
  rw [hz] at q
  exact q)
 have dC : Hid (∀ v w, RB w v (actRes (cmdS k) (insK l l.length)) → Calls Tryz.prog 32 #[v] w fun e w' => ∃ v', e = .returned (.tuple #[.agg #[.string (cmdS k), v'], .int .i64 0]) ∧ RP w' v' (insK l l.length) ∧ Below w.heap.size w w') := hid (fun v w h => by
  have q := action_Decode v _ w h
  unfold ADPost at q
  rw [hdec] at q
  exact q)
 have hrun := hid (fun lv w h => keyed_run hK (by omega) lv w h)
 clear hz hdec hkey hke hK hcs2 hcz hlt hm hO hmid
 generalize actRes (cmdS k) (insK l l.length) = R at *
 generalize insK l l.length = PS at *
 generalize cmdS k = cmd at *
 have x50 : wr.cell? ⟨q5, 0, none⟩ = some (.string cmd) := cell_of_row _ _ 0 _ _ _ hX
 have x51 : wr.cell? ⟨q5, 1, none⟩ = some (.slice a PS.length c) := cell_of_row _ _ 1 _ _ _ hX
 replace hX := hid hX
 replace hb := hid hb
 go_wp2_with fail
 ((with_reducible refine (kC.out _ _ rp0.out).mono ?_); rintro e3 w3 ⟨rfl, b3⟩)
 have hX3 := hid (stays b3 hX.out)
 have rp3 := hid (rp0.out.mono EPart.stable b3)
 have hb3 := hid (b_call hb.out b3)
 clear b3 rp0 hX hb x50 x51
 have x50 : w3.cell? ⟨q5, 0, none⟩ = some (.string cmd) := cell_of_row _ _ 0 _ _ _ hX3.out
 have x51 : w3.cell? ⟨q5, 1, none⟩ = some (.slice a PS.length c) := cell_of_row _ _ 1 _ _ _ hX3.out
 go_wp2_with fail
 ((with_reducible refine (eC.out _ _ rp3.out).mono ?_); rintro e4 w4 ⟨bv, rfl, rb4, b4⟩)
 obtain ⟨ba, bc, rfl, -⟩ := id rb4
 replace rb4 := hid rb4
 have hb4 := hid (b_call hb3.out b4)
 clear b4 rp3 hX3 hb3 x50 x51
 go_wp2_with fail
 ((with_reducible refine (dC.out _ _ rb4.out).mono ?_); rintro e5 w5 ⟨pv, rfl, rp5, b5⟩)
 obtain ⟨pa, pc, rfl, -⟩ := id rp5
 replace rp5 := hid rp5
 have hb5 := hid (b_call hb4.out b5)
 clear b5 rb4 hb4
 go_wp2_with fail
 ((with_reducible refine (kC.out _ _ (rp5.out.mono EPart.stable (b_alloc (Below.refl _ _) _))).mono ?_); rintro e6 w6 ⟨rfl, b6⟩)
 have hb6 := hid (b_call (b_alloc hb5.out _) b6)
 clear b6 rp5 hb5 kC eC dC
 have q9 := key_self K
 go_wp2_with fail
 have hro := hid (rord_of (w6.alloc (.cells #[.int .i64 12, .int .i64 1, .string K, .slice none 0 0, .slice none 0 0, .int .i64 12, .int .i64 2, .string K, .slice none 0 0, .slice none 0 0, .int .i64 13, .int .i64 0, .string K, .slice none 0 0, .slice none 0 0, .int .i64 12, .int .i64 3, .string K, .slice none 0 0, .slice none 0 0] 47)) w6.heap.size 4 #[.int .i64 12, .int .i64 1, .string K, .slice none 0 0, .slice none 0 0, .int .i64 12, .int .i64 2, .string K, .slice none 0 0, .slice none 0 0, .int .i64 13, .int .i64 0, .string K, .slice none 0 0, .slice none 0 0, .int .i64 12, .int .i64 3, .string K, .slice none 0 0, .slice none 0 0] 47 (kyOrders K) (heap_alloc_new w6 _) (by
  intro k x hx
  have hk4 : k < 4 := (List.getElem?_eq_some_iff.1 hx).1
  obtain rfl | rfl | rfl | rfl : k = 0 ∨ k = 1 ∨ k = 2 ∨ k = 3 := by omega
  all_goals
   simp only [List.getElem?_cons_succ, List.getElem?_cons_zero, Option.some.injEq] at hx
   subst hx
   exact ⟨_, _, rfl, rfl, rfl, rfl, rfl, RS.nil, RS.nil⟩) rfl (by show 4 ≤ 80; decide))
 have hb7 := hid (b_alloc hb6.out (.cells #[.int .i64 12, .int .i64 1, .string K, .slice none 0 0, .slice none 0 0, .int .i64 12, .int .i64 2, .string K, .slice none 0 0, .slice none 0 0, .int .i64 13, .int .i64 0, .string K, .slice none 0 0, .slice none 0 0, .int .i64 12, .int .i64 3, .string K, .slice none 0 0, .slice none 0 0] 47))
 clear hb6
 ((with_reducible refine (hrun.out _ _ hro.out).mono ?_); rintro e7 w7 ⟨v, rs, a1, c1, a2, c2, a3, c3, a4, c4, rfl, hrs, own, reps, -, b7⟩)
 have hst : dcells (kySt K 4) a1 c1 a2 c2 a3 c3 a4 c4 = #[.slice a1 0 c1, .slice a2 (gtL K 1 [entK K]).length c2, .int .i64 100, .int .i64 2, .int .i64 0, .slice a3 0 c3, .string ⟨#[]⟩, .slice a4 0 c4] := rfl
 rw [hst]
 clear hst hrun
 generalize (gtL K 1 [entK K]).length = n2
 have hb8 := hid (b_call hb7.out b7)
 clear hb7 b7 hro
 obtain ⟨r0, r1, r2, r3, rfl⟩ : ∃ r0 r1 r2 r3, rs = [r0, r1, r2, r3] := by
  have hl := congrArg List.length hrs
  simp only [List.length_map, List.length_cons, List.length_nil] at hl
  match rs, hl with
  | [r0, r1, r2, r3], _ => exact ⟨r0, r1, r2, r3, rfl⟩
 simp only [List.map_cons, List.map_nil, List.cons.injEq] at hrs
 obtain ⟨h0, h1, h2, h3, -⟩ := hrs
 obtain ⟨y0, d0, p0, g0⟩ := r0
 obtain ⟨y1, d1, p1, g1⟩ := r1
 obtain ⟨y2, d2, p2, g2⟩ := r2
 obtain ⟨y3, d3, p3, g3⟩ := r3
 simp only at h0 h1 h2 h3
 subst h0 h1 h2 h3
 obtain ⟨ga, gc⟩ := g2
 obtain ⟨-, -, ow, hw⟩ := reps _ (List.mem_cons_of_mem _ (List.mem_cons_of_mem _ (List.mem_cons_self ..)))
 have hri := hid (reads_i ow hw.1 hw.2 : RI w7 (.slice ga 2 gc) [1, 2])
 rcases os_forms' own with ⟨-, h⟩ | ⟨g, cg, rfl, hc4⟩
 · cases h
 have z4 : w7.cell? ⟨g, 4, none⟩ = some (.int .i64 1) := OS.cell (i := 0) (o := 4) own cRep_len rfl rfl
 have z10 : w7.cell? ⟨g, 10, none⟩ = some (.int .i64 2) := OS.cell (i := 1) (o := 4) own cRep_len rfl rfl
 have z17 : w7.cell? ⟨g, 17, none⟩ = some (.slice ga 2 gc) := OS.cell (i := 2) (o := 5) own cRep_len rfl rfl
 have z22 : w7.cell? ⟨g, 22, none⟩ = some (.int .i64 0) := OS.cell (i := 3) (o := 4) own cRep_len rfl rfl
 have z18 : w7.cell? ⟨g, 18, none⟩ = some (.int .i64 0) := OS.cell (i := 3) (o := 0) own cRep_len rfl rfl
 have hc : 4 ≤ cg := hc4
 have hgl : g < w7.heap.size := (World.ownsRow.lt own g rfl).2
 have hz5 := hid (And.intro z4 (And.intro z10 (And.intro z17 (And.intro z22 z18))))
 clear own reps ow hw hc4 z4 z10 z17 z22 z18
 simp only [List.length_cons, List.length_nil]
 go_wp2_with fail
 ((with_reducible refine (works_ok _).mono ?_); rintro e9 w9 ⟨rfl, b9⟩)
 have hbb9 := b_call (b_alloc (Below.refl w7.heap.size w7) _) b9
 have z4 := cell_stays hbb9 hgl hz5.out.1
 have z10 := cell_stays hbb9 hgl hz5.out.2.1
 have z17 := cell_stays hbb9 hgl hz5.out.2.2.1
 have z22 := cell_stays hbb9 hgl hz5.out.2.2.2.1
 have z18 := cell_stays hbb9 hgl hz5.out.2.2.2.2
 have hri9 := hid (hri.out.mono EI.stable hbb9)
 have hb9 := hid (b_call hb8.out hbb9)
 have hgl9 : g < w9.heap.size := Nat.lt_of_lt_of_le hgl hbb9.size
 clear hbb9 b9 hb8 hri hz5
 go_wp2_with fail
 ((with_reducible refine (slices_Equal_int _ _ _ [1, 2] (hri9.out.mono EI.stable (b_alloc (Below.refl _ _) _)) (ri_two w9 _ rfl)).mono ?_); rintro ea wa ⟨rfl, ba⟩)
 have hba := b_call (b_alloc (Below.refl w9.heap.size w9) _) ba
 have y22 := cell_stays hba hgl9 z22
 have y18 := cell_stays hba hgl9 z18
 have hbz := hid (b_call hb9.out hba)
 clear hba ba z4 z10 z17 z22 z18 hb9 hri9
 go_wp2_with fail
 go_ret
 exact ⟨rfl, hbz.out⟩
theorem TopKeyed_walk (w : World) (rs : Array Value) (r : RawT) (v : Value) (l : List RawT) (hr : VRawT w rs.toList r) (hl : RRw w v l) (htx : ∀ x ∈ l, x.text.size ≤ 1048576) :
 Calls Tryz.prog 10 #[.agg rs, v] w fun e w' => e = .returned (.bool true) ∧ Below w.heap.size w w' := by
 obtain ⟨hc, -, ha, -⟩ := hr
 obtain rfl : rs = #[.int .i64 r.kind, .int .i64 r.a, .int .i64 r.b, .string r.text] := by
  cases rs
  simp only at hc
  rw [hc]
 exact TopKeyed_walk' r v l w hl ha htx
end Go.Proofs.YtpkpgehiplhkpaaGreat
