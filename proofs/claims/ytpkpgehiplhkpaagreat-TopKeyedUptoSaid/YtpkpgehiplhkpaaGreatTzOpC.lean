import Derived.Test.YtpkpgehiplhkpaaGreatTzBas
import Derived.Test.YtpkpgehiplhkpaaGreatRows
import Derived.StillTail
import Derived.Deep.RegionHeld
import Derived.BigQuiet
namespace Go.Proofs.YtpkpgehiplhkpaaGreat
open Go.RowKit Go.Deep
theorem bulk_part {H : Type} {d : DataW H} {l : List (DataW H)} (h : d ∈ l) : Rows.uptoBulk d ≤ Rows.uptoBulkAll l := by
 induction l with
 | nil => cases h
 | cons x r ih =>
   simp only [Rows.uptoBulkAll]
   rcases List.mem_cons.1 h with e | e
   · subst e; omega
   have := ih e; omega
theorem bulk_small {H : Type} {l : List (DataW H)} (hk : Rows.uptoSmall H l = true) {d : DataW H} (h : d ∈ l) : Rows.uptoBulk d ≤ 1048576 := by
 have h1 : Rows.uptoBulkAll l ≤ 1048576 := of_decide_eq_true hk
 have h2 := bulk_part h
 omega
end Go.Proofs.YtpkpgehiplhkpaaGreat

namespace Go.Proofs.YtpkpgehiplhkpaaGreat
open Go.RowKit
theorem os_forms' {α : Type} {e : TypeId} {s : Nat} {cells : α → List Value} {w : World} {B : Nat} {v : Value} {R : List α} (h : OS e s cells w B v R) : (v = .slice none 0 0 ∧ R = []) ∨ ∃ g c, v = .slice (some ⟨g, 0, none⟩) R.length c ∧ R.length ≤ c := by
 obtain ⟨h1, h2⟩ := h
 rcases h2 with ⟨rfl, hn⟩ | ⟨g, cap, cur, rfl, hg, hh, hnc, -⟩
 · exact .inl ⟨rfl, List.eq_nil_of_length_eq_zero hn⟩
 exact .inr ⟨g, cap, rfl, hnc⟩
theorem OS.cell {α : Type} {e : TypeId} {s B g n cap i o : Nat} {cells : α → List Value} {w : World} {l : List α} {x : α} {u : Value} (h : OS e s cells w B (.slice (some ⟨g, 0, none⟩) n cap) l) (hl : ∀ x, (cells x).length = s) (hx : l[i]? = some x) (hu : (cells x)[o]? = some u) :
 w.cell? ⟨g, i * s + o, none⟩ = some u := by
 have ho : o < s := by have := (List.getElem?_eq_some_iff.1 hu).1; rw [hl] at this; exact this
 have hil := (List.getElem?_eq_some_iff.1 hx).1
 have hlt : i * s + o < l.length * s := by
  have : i * s + s ≤ l.length * s := by rw [← Nat.succ_mul]; exact Nat.mul_le_mul_right _ hil
  omega
 have hn : n = l.length := by
  rcases h.2 with ⟨h2, _⟩ | ⟨g', cap', cur, hv, -⟩
  · cases h2
  simp only [Value.slice.injEq] at hv; exact hv.2.1
 subst hn
 have hc := World.ownsRow.cellAt h (i * s + o) (by have := flat_len hl l; omega)
 have e1 : (i * s + o) / s = i := by rw [Nat.add_comm, Nat.add_mul_div_right o i (by omega), Nat.div_eq_of_lt ho, Nat.zero_add]
 have e2 : (i * s + o) % s = o := by rw [Nat.add_comm, Nat.add_mul_mod_self_right, Nat.mod_eq_of_lt ho]
 rw [flat_get hl (by omega), e1, e2, hx] at hc
 exact hc.trans hu
theorem OS.keptBy {α : Type} {e : TypeId} {s B : Nat} {cells : α → List Value} {w w' : World} {v : Value} {l : List α} {row : Option Nat} (h : OS e s cells w B v l) (hg : w.grownBy w' row) (hn : ∀ b, row = some b → v.ownBlock ≠ some b) : OS e s cells w' B v l :=
 World.ownsRow.kept (row := row) h hg (by
  cases row with
  | none => cases hv : v.ownBlock <;> simp
  | some b => exact Or.inr (hn b rfl))
theorem OS.other' {α : Type} {e T : TypeId} {s B q o : Nat} {cells : α → List Value} {w : World} {v u : Value} {l : List α} {cs : Array Value} {fr : Nat × Nat} (h : OS e s cells w B v l) (hq : w.heap[q]? = some (.cells cs T fr)) (hT : T ≠ e) :
 OS e s cells (w.setCell ⟨q, o, none⟩ u) B v l :=
 World.ownsRow.kept (row := some q) h ⟨rfl, rfl, rfl, by simp [World.setCell], fun k _ hk => Below.heap_setCell _ _ _ _ (fun e => hk (by simp [e]))⟩ (Or.inr (OS.block_ne h hq hT))
theorem heap_lt' {w : World} {k : Nat} {x : Obj} (h : w.heap[k]? = some x) : k < w.heap.size := (Array.getElem?_eq_some_iff.1 h).1
theorem set_all' {α : Type} {Q : α → Prop} {l : List α} {i : Nat} {y : α} (h : ∀ x ∈ l, Q x) (hy : Q y) : ∀ x ∈ l.set i y, Q x := by
 intro x hx
 rcases List.mem_or_eq_of_mem_set hx with hx | rfl
 · exact h x hx
 exact hy
end Go.Proofs.YtpkpgehiplhkpaaGreat

namespace Go.Proofs.YtpkpgehiplhkpaaGreat
open Go.RowKit Go.Deep Go.ChangeShapes Go.WideShapes
variable {P : Program}
variable {P : Program}
structure Store where
 blobs : List Blob
 entries : List Entry
 room : Int
 clock : Int
end Go.Proofs.YtpkpgehiplhkpaaGreat

namespace Go.Proofs.YtpkpgehiplhkpaaGreat
open Go.RowKit
theorem qzpin_1 {P : Prop} (h : P := by
 go_enter Tryz.func186, Tryz.ntmps186
 go_wp2
 go_ret
 exact ⟨ret_i hr.out.symm, rfl⟩) : P := h
def pinErr (n : Int) : Int := if n < 0 ∨ 5 < n then 4 else 0
set_option maxRecDepth 100000 in
set_option maxHeartbeats 400000 in
theorem pin_Check (n : Int) (w : World) :
 Calls Tryz.prog 186 #[.int .i64 n] w fun e w' => e = .returned (.int .i64 (pinErr n)) ∧ w = w' := by
 by_cases h1 : n < 0
 · have hr : Hid (pinErr n = 4) := by show pinErr n = 4; unfold pinErr; rw [if_pos (.inl h1)]
   exact qzpin_1
 by_cases h2 : 5 < n
 · have hr : Hid (pinErr n = 4) := by show pinErr n = 4; unfold pinErr; rw [if_pos (.inr h2)]
   exact qzpin_1
 have hr : Hid (pinErr n = 0) := by show pinErr n = 0; unfold pinErr; rw [if_neg (by omega)]
 exact qzpin_1
end Go.Proofs.YtpkpgehiplhkpaaGreat

namespace Go.Proofs.YtpkpgehiplhkpaaGreat
open Go.RowKit Go.Deep Go.ChangeShapes Go.WideShapes
structure RawT where
 kind : Int
 a : Int
 b : Int
 text : ByteArray
def ERawT (w : World) (b o : Nat) (x : RawT) : Prop :=
 w.cell? ⟨b, o, none⟩ = some (.int .i64 x.kind) ∧ w.cell? ⟨b, o + 1, none⟩ = some (.int .i64 x.a) ∧ w.cell? ⟨b, o + 2, none⟩ = some (.int .i64 x.b) ∧ w.cell? ⟨b, o + 3, none⟩ = some (.string x.text) ∧
 (Lit.int .i64 x.kind).wf = true ∧ (Lit.int .i64 x.a).wf = true ∧ (Lit.int .i64 x.b).wf = true ∧ x.text.size ≤ 140737488351232
theorem ERawT.stable : Stable ERawT := fun _ _ _ _ _ hb hlt ⟨h1, h2, h3, h4, h5⟩ => ⟨cell_stays hb hlt h1, cell_stays hb hlt h2, cell_stays hb hlt h3, cell_stays hb hlt h4, h5⟩
abbrev RRw (w : World) (v : Value) (l : List RawT) : Prop := RS 4 40 ERawT w v l
def VRawT (_ : World) (cs : List Value) (x : RawT) : Prop := cs = [.int .i64 x.kind, .int .i64 x.a, .int .i64 x.b, .string x.text] ∧ (Lit.int .i64 x.kind).wf = true ∧ (Lit.int .i64 x.a).wf = true ∧ (Lit.int .i64 x.b).wf = true ∧ x.text.size ≤ 140737488351232
theorem lies_rawT : Lies 4 VRawT ERawT := fun w cs b o x _ h hc => by obtain ⟨rfl, h⟩ := h; exact ⟨hc 0 (by omega), hc 1 (by omega), hc 2 (by omega), hc 3 (by omega), h⟩
section
variable {P : Program}
theorem opens_rawT {t : TypeId} {f0 f1 f2 f3 : Field} (ht : P.underlying t = some (.struct #[f0, f1, f2, f3]))
 (ho : f0.offset = 0 ∧ f1.offset = 1 ∧ f2.offset = 2 ∧ f3.offset = 3) (hc : P.cellsOf t = 4) (hs : P.cellsOf f0.type = 1 ∧ P.cellsOf f1.type = 1 ∧ P.cellsOf f2.type = 1 ∧ P.cellsOf f3.type = 1)
 (h0 : Opens P f0.type VI) (h1 : Opens P f1.type VI) (h2 : Opens P f2.type VI) (h3 : Opens P f3.type VStr) : Opens P t VRawT := by
 intro H enc w n cs x h hw
 obtain ⟨c0, c1, c2, c3, y0, y1, y2, y3, n', rfl, g0, g1, g2, g3, w0, w1, w2, w3⟩ := struct4 ht ho hc hs h hw
 obtain ⟨a0, e0, b0⟩ := h0 H enc w n' _ _ g0 w0
 obtain ⟨a1, e1, b1⟩ := h1 H enc w n' _ _ g1 w1
 obtain ⟨a2, e2, b2⟩ := h2 H enc w n' _ _ g2 w2
 obtain ⟨a3, e3, b3⟩ := h3 H enc w n' _ _ g3 w3
 simp only [List.cons.injEq, and_true] at e0 e1 e2 e3
 subst e0 e1 e2 e3
 exact ⟨⟨a0, a1, a2, a3⟩, rfl, b0, b1, b2, b3⟩
end
section
variable {H : Type} {enc : TypeId × Value → H} {P : Program} {w : World}
theorem bulk_text {n : Nat} {t : TypeId} {s : ByteArray} {x : DataW H × List MemPlace} (ht : P.underlying t = some .string) (h : DataW.trod enc P w 0 (fun _ => true) true n t [.string s] = some x) : s.size ≤ Rows.uptoBulk x.1 := by
 obtain ⟨s', h1, rfl, -⟩ := DataW.trod_string ht h
 simp only [List.cons.injEq, Value.string.injEq, and_true] at h1
 subst h1
 have e : s.data.toList.length = s.size := by rw [Array.length_toList]; rfl
 simp only [Rows.uptoBulk]
 omega
theorem bulk_raws {t e : TypeId} {f0 f1 f2 f3 : Field} {v : Value} {l : List RawT} {d : DataW H} {ps : List MemPlace} (ht : P.underlying t = some (.slice e)) (he : P.underlying e = some (.struct #[f0, f1, f2, f3]))
 (ho : f3.offset = 3) (hc : P.cellsOf e = 4) (hs : P.cellsOf f3.type = 1) (hp : P.underlying f3.type = some .string) (hr : RRw w v l)
 (h : DataW.Trod enc P w 0 (fun _ => true) true t v d ps) {ds : List (DataW H)} (hk : Rows.uptoSmall H ds = true) (hd : d ∈ ds) : ∀ x ∈ l, x.text.size ≤ 1048576 := by
 have hsm := bulk_small hk hd
 clear hk hd
 obtain ⟨n, h⟩ := h
 obtain ⟨a0, c0, rfl, hlc, hcm, hre, hno, hat⟩ := hr
 rcases open_slice ht h with ⟨hv, hx⟩ | ⟨a, len, cap, m, n', D, Pl, hv, hb, hl, hm, hmm, hx, hxx⟩
 · have hv' : Value.slice a0 l.length c0 = .slice none 0 0 := by simpa [Value.cells] using hv
   simp only [Value.slice.injEq] at hv'
   have : l = [] := List.eq_nil_of_length_eq_zero hv'.2.1
   subst this
   intro x hx
   cases hx
 have hv' : Value.slice a0 l.length c0 = .slice (some a) len cap := by simpa [Value.cells] using hv
 simp only [Value.slice.injEq] at hv'
 obtain ⟨rfl, rfl, rfl⟩ := hv'
 simp only [if_true] at hmm
 subst hmm
 simp only [Prod.mk.injEq] at hx
 obtain ⟨rfl, -⟩ := hx
 intro x hx
 obtain ⟨i, hi, rfl⟩ := List.getElem_of_mem hx
 obtain ⟨cs', h1, h2⟩ := hxx i (by omega)
 obtain ⟨_, hlen, hcell⟩ := World.cells?_some h1
 have hk : l[i]? = some l[i] := List.getElem?_eq_getElem hi
 generalize l[i] = y at hk
 obtain ⟨b, off, ha, hlt, k0, k1, k2, k3, -⟩ := hat i _ hk
 simp only [Option.some.injEq] at ha
 subst ha
 have g1 := hcell 3 (by omega)
 rw [hc] at g1
 have g2 : cs'[3]? = some (.string y.text) := by
  rw [← g1, ← k3]
  simp [Addr.add_lit]
 obtain ⟨xs, n2, _, hD, hl2, hlen2, hf⟩ := DataW.trod_struct he h2
 rw [hc] at hl2
 match xs, hlen2, cs', hl2 with
 | [y0, y1, y2, y3], _, [q0, q1, q2, q3], _ =>
   have g := hf 3 f3 rfl
   rw [ho, hs] at g
   simp only [List.getElem?_cons_succ, List.getElem?_cons_zero, Option.some.injEq] at g2
   subst g2
   have hb := bulk_text (x := y3) hp g
   simp only [Prod.mk.injEq] at hD
   have h5 : Rows.uptoBulk (D i) ≤ Rows.uptoBulkAll ((List.range l.length).map D) := bulk_part (List.mem_map.2 ⟨i, List.mem_range.2 hi, rfl⟩)
   rw [hD.1] at h5
   simp only [List.map_cons, List.map_nil, Rows.uptoBulk, Rows.uptoBulkAll] at h5 hsm
   omega
end
end Go.Proofs.YtpkpgehiplhkpaaGreat

namespace Go.Proofs.YtpkpgehiplhkpaaGreat
open Go.RowKit
section
variable {P : Program} {ops : Array Oper} {Q : Exit → Act → World → Prop} {md : Region.Mode} {S : World → Prop} {n : Nat}
def wpT (P : Program) (md : Region.Mode) (ops : Array Oper) (Q : Exit → Act → World → Prop) (S : World → Prop) (n : Nat) : Nat → Array Bool → Act → World → Prop
 | 0, listed, a, w => Region.ready md ops listed = [] ∧ Q .normal a w
 | fuel + 1, listed, a, w =>
   (Region.ready md ops listed = [] → Q .normal a w) ∧
   ∀ i ∈ Region.ready md ops listed, wpOp P ops Q i (fun a' w' => (i < n → S w') ∧ wpT P md ops Q S n fuel (listed.setIfInBounds i true) a' w') a w
theorem wpAny_of_T : ∀ (fuel : Nat) (listed : Array Bool) (a : Act) (w : World), wpT P md ops Q S n fuel listed a w → wpAny P md ops Q fuel listed a w
 | 0, _, _, _, h => h
 | fuel + 1, _, _, _, h => ⟨h.1, fun i hi => wpOp_mono (fun a' w' h' => wpAny_of_T fuel _ a' w' h'.2) (h.2 i hi)⟩
theorem wpT_first {i : Nat} {oi : Oper} {v : Value} (hi : ops[i]? = some oi) (hsel : ∀ (j : Nat) (o : Oper) cs b, ops[j]? = some o → o.op ≠ .select cs b)
 (hQ : ∀ c a w, Q (.panic c) (a.put oi.dst v) w → Q (.panic c) a w) (hs : Region.sinkB md ops n = true) (hc : Region.chainB md ops n = true) (hn : n < ops.size) (hin : i < n) :
 ∀ (fuel : Nat) (listed : Array Bool) (a : Act) (w : World), HeadInv md ops n listed →
   (∀ j oj, ops[j]? = some oj → j ≠ i → listed.getD j true = false → (∀ e ∈ oj.after, Region.binds md e = true → e.on ≠ i) → oi.apart ops oj = true) →
   i ∈ Region.ready md ops listed → YieldsIf P ops S oi v a → S w →
   wpT P md ops Q S n fuel (listed.setIfInBounds i true) (a.put oi.dst v) w → wpT P md ops Q S n (fuel + 1) listed a w := by
 intro fuel
 induction fuel with
 | zero =>
   intro listed a w _ _ hr hy hS H
   refine ⟨fun h => (by rw [h] at hr; cases hr), fun j hj => ?_⟩
   by_cases hji : j = i
   · subst hji; exact hy.wpOp hi hS ⟨fun _ => hS, H⟩
   have := ready_mono hj hji
   rw [H.1] at this
   cases this
 | succ fuel ih =>
   intro listed a w inv hfree hr hy hS H
   have hun := (mem_ready.1 hr).1
   refine ⟨fun h => (by rw [h] at hr; cases hr), fun j hj => ?_⟩
   have hjn : j < n := by
    rcases Nat.lt_or_ge j n with h | h
    · exact h
    exact absurd hj (tail_waits hs hc hn inv _ i rfl hin hun j h)
   by_cases hji : j = i
   · subst hji; exact hy.wpOp hi hS ⟨fun _ => hS, H⟩
   have h1 := H.2 j (ready_mono hj hji)
   obtain ⟨hjun, oj, hoj, hall⟩ := mem_ready.1 hj
   have hnot : ∀ e ∈ oj.after, Region.binds md e = true → e.on ≠ i := fun e he hb heq => by
    have h1 := hall e he hb
    rw [heq, getD_both hun] at h1
    cases h1
   have h2 := wpOp_putIf hoj (hfree j oj hoj hji hjun hnot) (fun cs b => hsel i oi cs b hi) (fun cs b => hsel j oj cs b hoj) hQ hy h1
   have hfree' : ∀ k ok, ops[k]? = some ok → k ≠ i → (listed.setIfInBounds j true).getD k true = false →
    (∀ e ∈ ok.after, Region.binds md e = true → e.on ≠ i) → oi.apart ops ok = true := fun k ok hk hki hun hno => by
    refine hfree k ok hk hki ?_ hno
    by_cases hjk : j = k
    · subst hjk; exact hjun
    rw [getD_set_ne true hjk] at hun; exact hun
   refine wpOp_mono (fun a' w' h3 => ⟨h3.2.1, ih (listed.setIfInBounds j true) a' w' (inv.set hj hjn) hfree' (ready_mono hr (Ne.symm hji)) h3.1 (h3.2.1 hjn) ?_⟩) h2
   rw [Array.setIfInBounds_comm _ _ hji]
   exact h3.2.2
def headB (md : Region.Mode) (ops : Array Oper) (n : Nat) (listed : Array Bool) : Bool :=
 decide (listed.size = ops.size) && (List.range ops.size).all (fun j => !listed.getD j false || ((ops[j]?).map (·.after.all fun e => !Region.binds md e || listed.getD e.on false)).getD true) && (List.range ops.size).all fun t => decide (t < n) || !listed.getD t true
theorem headInv_of {listed : Array Bool} (h : headB md ops n listed = true) : HeadInv md ops n listed := by
 unfold headB at h
 simp only [Bool.and_eq_true, decide_eq_true_eq] at h
 obtain ⟨⟨h1, h2⟩, h3⟩ := h
 refine ⟨h1, fun j oj hj hl e he hb => ?_, fun t ht ht2 => ?_⟩
 · have hjl : j < ops.size := (Array.getElem?_eq_some_iff.1 hj).1
   have h4 := List.all_eq_true.1 h2 j (List.mem_range.2 hjl)
   rw [hl, hj] at h4
   simp only [Bool.not_true, Bool.false_or, Option.map_some, Option.getD_some] at h4
   obtain ⟨k, hk, rfl⟩ := Array.getElem_of_mem he
   have h5 := Array.all_eq_true.1 h4 k hk
   rw [hb] at h5
   simpa using h5
 have h4 := List.all_eq_true.1 h3 t (List.mem_range.2 ht2)
 simp only [Bool.or_eq_true, decide_eq_true_eq, Bool.not_eq_true'] at h4
 rcases h4 with h4 | h4
 · omega
 exact h4
def takeB (md : Region.Mode) (ops : Array Oper) (n : Nat) (listed : Array Bool) (i : Nat) : Bool :=
 Region.noSelect ops && (Region.sinkB md ops n && (Region.chainB md ops n && (decide (n < ops.size) && (decide (i < n) && (headB md ops n listed && (Region.free md ops listed i && (Region.ready md ops listed).contains i))))))
theorem wpT_take {i : Nat} {oi : Oper} {v : Value} {fuel : Nat} {listed : Array Bool} {a : Act} {w : World} (hi : ops.toList[i]? = some oi) (hB : takeB md ops n listed i = true)
 (hQ : ∀ c a w, Q (.panic c) (a.put oi.dst v) w → Q (.panic c) a w) (hy : YieldsIf P ops S oi v a) (hS : S w)
 (h : wpT P md ops Q S n fuel (listed.setIfInBounds i true) (a.put oi.dst v) w) : wpT P md ops Q S n (fuel + 1) listed a w := by
 rw [Array.getElem?_toList] at hi
 simp only [takeB, Bool.and_eq_true, decide_eq_true_eq] at hB
 obtain ⟨h1, h2, h3, h4, h5, h6, h7, h8⟩ := hB
 exact wpT_first hi (Region.noSelect_spec h1) hQ h2 h3 h4 h5 fuel listed a w (headInv_of h6) (Region.free_spec hi h7) (by simpa using h8) hy hS h
def AllT (P : Program) (md : Region.Mode) (ops : Array Oper) (Q : Exit → Act → World → Prop) (S : World → Prop) (n fuel : Nat) (listed : Array Bool) (a : Act) (w : World) (rs : List Nat) : Prop :=
 ∀ i ∈ rs, wpOp P ops Q i (fun a' w' => (i < n → S w') ∧ wpT P md ops Q S n fuel (listed.setIfInBounds i true) a' w') a w
theorem AllT.nil {fuel : Nat} {listed : Array Bool} {a : Act} {w : World} : AllT P md ops Q S n fuel listed a w [] := fun _ h => by cases h
theorem AllT.cons {fuel : Nat} {listed : Array Bool} {a : Act} {w : World} {i : Nat} {o : Oper} {rs : List Nat} (ho : ops.toList[i]? = some o)
 (h : ∀ K' : Act → World → Prop, Shut (∀ a w, (i < n → S w) → wpT P md ops Q S n fuel (listed.setIfInBounds i true) a w → K' a w) → if Region.wanted o (yielded ops a.tmps) = true then Oper.wp P o a w K' Q else K' (a.put o.dst undef) w)
 (hs : AllT P md ops Q S n fuel listed a w rs) : AllT P md ops Q S n fuel listed a w (i :: rs) := fun j hj => by
 rw [Array.getElem?_toList] at ho
 rcases List.mem_cons.1 hj with rfl | hj
 · exact wpOp_step ho (fun K' hK => h K' (fun a w hS hW => hK a w ⟨hS, hW⟩))
 exact hs j hj
theorem wpT_ready {rs : List Nat} {fuel : Nat} {listed : Array Bool} {a : Act} {w : World} (hr : Region.ready md ops listed = rs) (hne : rs ≠ [])
 (h : AllT P md ops Q S n fuel listed a w rs) : wpT P md ops Q S n (fuel + 1) listed a w := ⟨fun h0 => absurd (hr ▸ h0) hne, hr ▸ h⟩
theorem wpT_done {listed : Array Bool} {a : Act} {w : World} (hr : Region.ready md ops listed = []) (h : Q .normal a w) : ∀ fuel, wpT P md ops Q S n fuel listed a w
 | 0 => ⟨hr, h⟩
 | _ + 1 => ⟨fun _ => h, by rw [hr]; simp⟩
theorem wp_region_T {id : Nat} {a : Act} {w : World} (hm : P.follows .mixedOrders = true)
 (h : wpT P .any ops Q S n ops.size (Array.replicate ops.size false) a w.drew) : (Code.region id ops true).wp P Q a w :=
 wp_region_any hm (wpAny_of_T _ _ _ _ h)
end
end Go.Proofs.YtpkpgehiplhkpaaGreat

namespace Go.Proofs.YtpkpgehiplhkpaaGreat
open Go.RowKit
def cPart (x : Part) : List Value := [.string x.name, .string x.digest, .int .i64 x.size]
theorem flat_part : Flat 3 cPart EPart := ⟨by decide, fun _ => rfl, fun _ u hu => by simp [cPart] at hu; rcases hu with rfl | rfl | rfl <;> rfl, fun w b o x h j hj => by
 obtain ⟨h0, h1, h2, _⟩ := h
 rcases j with _ | _ | _ | j
 · exact h0
 · exact h1
 · exact h2
 · omega⟩
theorem reads_part {e : TypeId} {w : World} {B : Nat} {v : Value} {l : List Part} (h : OS e 3 cPart w B v l) (hb : l.length * 40 ≤ 140737488351232) (ho : ∀ x ∈ l, x.name.size ≤ 140737488351232 ∧ x.digest.size ≤ 140737488351232 ∧ (Lit.int .i64 x.size).wf = true) : RP w v l :=
 OS.reads (cells := cPart) (fun _ => rfl) (by decide) (fun b o x hx hc => ⟨hc 0 (by omega), hc 1 (by omega), hc 2 (by omega), ho x hx⟩) h hb
theorem info_part : (Tryz.prog.info? 67).map (fun i => (i.zero, i.size, i.bytes)) = some (some (.agg #[.string ⟨#[]⟩, .string ⟨#[]⟩, .int .i64 0]), 3, 40) := by kernel_rfl
theorem info_int : (Tryz.prog.info? 3).map (fun i => (i.zero, i.size, i.bytes)) = some (some (.int .i64 0), 1, 8) := by kernel_rfl
set_option maxRecDepth 100000 in
set_option maxHeartbeats 400000 in
theorem slices_Clone_part (v : Value) (l : List Part) (w : World) (h : RP w v l) :
 Calls Tryz.prog 54 #[v] w fun e w' => ∃ v', e = .returned v' ∧ OS 67 3 cPart w' w.heap.size v' l ∧ Below w.heap.size w w' := by
 obtain ⟨i0, hi, hz0, hz1, hz2⟩ := info_parts info_part
 have hh := h
 obtain ⟨a, c, rfl, hlc, hcm, hre, hno, hat⟩ := hh
 cases a with
 | none =>
   have hc0 := hno rfl
   subst hc0
   have hl0 : l = [] := List.eq_nil_of_length_eq_zero (by omega)
   subst hl0
   have he := fun w => Lib.run_eql_slice_nil (P := Tryz.prog) w 42 67 none 0 0 0 0 Tryz.underlying42
   go_enter Tryz.func54, Tryz.ntmps54
   go_wp2
   go_ret
   exact ⟨_, rfl, OS.nil, Below.refl _ _⟩
 | some ad =>
   have he := fun w => Lib.run_eql_slice_nil (P := Tryz.prog) w 42 67 (some ad) l.length c 0 0 Tryz.underlying42
   clear hat
   go_enter Tryz.func54, Tryz.ntmps54
   go_wp2_with (at_builtin; go_must (refine wpL_append flat_part rfl (.tmp 5) (.tmp 6) 42 rfl 67 i0 _ Tryz.underlying42 hi hz0 hz1 hz2 rfl w.heap.size _ [] rfl (os_empty' _ _ _ _ (by simp) (by simp)) _ l rfl (h.mono EPart.stable (b_alloc (Below.refl _ _) _)) ?c1 ?c2 ?c3 ?_))
   case c1 => simp; omega
   case c2 => simp [maxLen]; omega
   case c3 => simp
   intro v' w1 hown hg
   have hb := b_grown (b_alloc (Below.refl _ w) (.cells #[] 67)) hg (fun k hk => by simp [Value.ownBlock] at hk; omega)
   clear hg
   go_wp2
   go_ret
   exact ⟨_, rfl, hown, hb⟩
set_option maxRecDepth 100000 in
set_option maxHeartbeats 400000 in
theorem slices_Clone_int (v : Value) (l : List Int) (w : World) (h : RI w v l) :
 Calls Tryz.prog 254 #[v] w fun e w' => ∃ v', e = .returned v' ∧ OS 3 1 cI w' w.heap.size v' l ∧ Below w.heap.size w w' := by
 obtain ⟨i0, hi, hz0, hz1, hz2⟩ := info_parts info_int
 have hh := h
 obtain ⟨a, c, rfl, hlc, hcm, hre, hno, hat⟩ := hh
 cases a with
 | none =>
   have hc0 := hno rfl
   subst hc0
   have hl0 : l = [] := List.eq_nil_of_length_eq_zero (by omega)
   subst hl0
   have he := fun w => Lib.run_eql_slice_nil (P := Tryz.prog) w 43 3 none 0 0 0 0 Tryz.underlying43
   go_enter Tryz.func254, Tryz.ntmps254
   go_wp2
   go_ret
   exact ⟨_, rfl, OS.nil, Below.refl _ _⟩
 | some ad =>
   have he := fun w => Lib.run_eql_slice_nil (P := Tryz.prog) w 43 3 (some ad) l.length c 0 0 Tryz.underlying43
   clear hat
   go_enter Tryz.func254, Tryz.ntmps254
   go_wp2_with (at_builtin; go_must (refine wpL_append flat_i rfl (.tmp 5) (.tmp 6) 43 rfl 3 i0 (.int .i64 0) Tryz.underlying43 hi hz0 hz1 hz2 rfl w.heap.size _ [] rfl (os_empty' _ _ _ _ (by simp) (by simp)) _ l rfl (h.mono EI.stable (b_alloc (Below.refl _ _) _)) ?c1 ?c2 ?c3 ?_))
   case c1 => simp; omega
   case c2 => simp [maxLen]; omega
   case c3 => simp
   intro v' w1 hown hg
   have hb := b_grown (b_alloc (Below.refl _ w) (.cells #[] 3)) hg (fun k hk => by simp [Value.ownBlock] at hk; omega)
   clear hg
   go_wp2
   go_ret
   exact ⟨_, rfl, hown, hb⟩
theorem below_drewN' {B : Nat} {a w : World} (h : Below B a w) (n : Nat) : Below B a (w.drewN n) := h.trans ⟨rfl, rfl, rfl, Nat.le_refl _, fun _ _ => rfl⟩
set_option maxRecDepth 100000 in
set_option maxHeartbeats 400000 in
theorem slices_Equal_int (a b : Value) (w : World) (l : List Int) (ha : RI w a l) (hb : RI w b l) :
 Calls Tryz.prog 33 #[a, b] w fun e w' => e = .returned (.bool true) ∧ Below w.heap.size w w' := by
 obtain ⟨a0, ca, rfl, hla, hca, hre, _, hA⟩ := ha
 obtain ⟨b0, cb, rfl, hlb, hcb, _, _, hB⟩ := hb
 unfold maxLen at hca hcb
 replace hA := hid hA
 replace hB := hid hB
 go_enter Tryz.func33, Tryz.ntmps33
 go_wp2_with fail
 go_loopw [13] (fun i wr => ∃ (k : Nat), i = .int .i64 (k : Int) ∧ k ≤ l.length ∧ Hid (Below w.heap.size w wr)) (fun i _ => l.length - (intOf i).toNat)
 case atStart => exact ⟨0, rfl, by omega, hid (Below.refl _ _)⟩
 obtain ⟨k, rfl, hk, hb⟩ := hrel
 by_cases hlt : k < l.length
 · have hx : l[k]? = some l[k] := List.getElem?_eq_getElem hlt
   generalize l[k] = x at hx
   obtain ⟨b1, o1, rfl, hb1, h1⟩ := hA.out k _ hx
   obtain ⟨b2, o2, rfl, hb2, h2⟩ := hB.out k _ hx
   obtain ⟨c0, -⟩ := EI.stable _ _ _ _ _ hb.out hb1 h1
   obtain ⟨d0, -⟩ := EI.stable _ _ _ _ _ hb.out hb2 h2
   rw [Nat.mul_one] at c0 d0
   clear hx h1 h2
   have hnk : (0 : Int) ≤ (k : Int) := by omega
   have hnl : (k : Int) < (l.length : Int) := by omega
   go_wp2_with fail
   go_quiet (fail)
   go_wp2_with fail
   go_roundw
   case rel => exact ⟨k + 1, by go_num, by omega, hid (below_drewN' hb.out _)⟩
   case measure => simp [intOf]; omega
 go_wp2_with fail
 go_ret
 exact ⟨rfl, hb.out⟩
end Go.Proofs.YtpkpgehiplhkpaaGreat

namespace Go.Proofs.YtpkpgehiplhkpaaGreat
open Go.RowKit
theorem qzrom_1 {P : Prop} (h : P := by
 go_enter Tryz.func105, Tryz.ntmps105
 go_wp2_with fail
 refine (room_Lacks _ _ _ _ _ h h1 h2 h3 h4).mono ?_
 rintro e w1 ⟨rfl, hb⟩
 go_wp2_with fail
 go_ret
 exact ⟨rfl, hb⟩) : P := h
def used (l : List Blob) : Int := l.foldl (fun n b => wrap64 (n + (b.data.length : Int))) 0
theorem used_snoc (l : List Blob) (k : Nat) (x : Blob) (h : l[k]? = some x) : used (l.take (k+1)) = wrap64 (used (l.take k) + (x.data.length : Int)) := by
 unfold used
 rw [List.take_add_one, h, List.foldl_append]; rfl
set_option maxRecDepth 100000 in
set_option maxHeartbeats 400000 in
theorem room_Used (v : Value) (l : List Blob) (w : World) (h : RBl w v l) :
 Calls Tryz.prog 241 #[v] w fun e w' => e = .returned (.int .i64 (used l)) ∧ Below w.heap.size w w' := by
 obtain ⟨a, c, rfl, hlc, hcm, hre, hno, hat⟩ := h
 unfold maxLen at hcm
 clear hno
 go_enter Tryz.func241, Tryz.ntmps241
 go_wp2
 go_loopw [3, 8] (fun t i wr => ∃ (k : Nat), k ≤ l.length ∧ i = .int .i64 k ∧ t = .int .i64 (used (l.take k)) ∧ Below w.heap.size w wr) (fun _ i _ => l.length - (intOf i).toNat)
 case atStart => exact ⟨0, by omega, rfl, rfl, Below.refl _ _⟩
 obtain ⟨k, hk, rfl, rfl, hb⟩ := hrel
 by_cases hlt : k < l.length
 · have hx : l[k]? = some l[k] := List.getElem?_eq_getElem hlt
   obtain ⟨b, off, rfl, hbb, he⟩ := hat k _ hx
   obtain ⟨dv, h0, h1, h2, h3, ⟨da, dc, hdv, _⟩, _⟩ := EBlob.stable _ _ _ _ _ hb hbb he
   have hs := hid (used_snoc l k _ hx)
   clear hat he hx
   subst hdv
   go_wp2
   go_roundw
   case rel => exact ⟨k+1, by omega, by go_num, by rw [hs.out], b_alloc hb _⟩
   case measure => simp [intOf]; omega
 go_wp2
 go_ret
 obtain rfl : k = l.length := by omega
 exact ⟨ret_i (by rw [List.take_length]), hb⟩
def lackV (l : List Blob) (room more : Int) : Int := if wrap64 (wrap64 (used l + more) - room) < 0 then 0 else wrap64 (wrap64 (used l + more) - room)
def inRoom (room more : Int) : Prop := 0 ≤ room ∧ room ≤ 4000 ∧ 0 ≤ more ∧ more ≤ 4000
theorem lackV_pos {l : List Blob} {room more : Int} (h : 0 ≤ wrap64 (wrap64 (used l + more) - room)) : lackV l room more = wrap64 (wrap64 (used l + more) - room) := by unfold lackV; rw [if_neg (by omega)]
theorem lackV_neg {l : List Blob} {room more : Int} (h : wrap64 (wrap64 (used l + more) - room) ≤ 0) : lackV l room more = 0 := by
 unfold lackV
 split
 · rfl
 omega
set_option maxRecDepth 100000 in
set_option maxHeartbeats 400000 in
theorem room_Lacks (v : Value) (l : List Blob) (room more : Int) (w : World) (h : RBl w v l) (h1 : 0 ≤ room) (h2 : room ≤ 4000) (h3 : 0 ≤ more) (h4 : more ≤ 4000) :
 Calls Tryz.prog 187 #[v, .int .i64 room, .int .i64 more] w fun e w' => e = .returned (.tuple #[.int .i64 (lackV l room more), .int .i64 0]) ∧ Below w.heap.size w w' := by
 go_enter Tryz.func187, Tryz.ntmps187
 go_wp2_with fail
 refine (room_Used _ _ _ h).mono ?_
 rintro e w1 ⟨rfl, hb⟩
 have HP := hid (@lackV_pos l room more)
 have HN := hid (@lackV_neg l room more)
 go_wp2
 · have hp : 0 < wrap64 (wrap64 (used l + more) - room) := by assumption
   go_ret2
   rw [HP.out (by omega)]
   exact ⟨rfl, hb⟩
 have hp : wrap64 (wrap64 (used l + more) - room) ≤ 0 := by assumption
 go_ret2
 rw [HN.out hp]
 exact ⟨rfl, hb⟩
set_option maxRecDepth 100000 in
set_option maxHeartbeats 400000 in
theorem room_Lacks_no (v : Value) (room more : Int) (w : World) (h : ¬ inRoom room more) :
 Calls Tryz.prog 187 #[v, .int .i64 room, .int .i64 more] w fun e w' => e = .returned (.tuple #[.int .i64 0, .int .i64 4]) ∧ w = w' := by
 unfold inRoom at h
 have h' : (room < 0 ∨ 4000 < room) ∨ (more < 0 ∨ 4000 < more) := by omega
 clear h
 have hd : (decide (room < 0) || decide (4000 < room) || decide (more < 0) || decide (4000 < more)) = true := by simp; omega
 clear h'
 go_enter Tryz.func187, Tryz.ntmps187
 go_wp2_with fail
 all_goals go_ret2
 all_goals exact ⟨rfl, rfl⟩
theorem lackV_nonneg (l : List Blob) (room more : Int) : 0 ≤ lackV l room more := by
 unfold lackV
 split
 · exact Int.le_refl _
 omega
set_option maxRecDepth 100000 in
theorem room_Fits (v : Value) (l : List Blob) (room more : Int) (w : World) (h : RBl w v l) (h1 : 0 ≤ room) (h2 : room ≤ 4000) (h3 : 0 ≤ more) (h4 : more ≤ 4000) (hp : 0 < lackV l room more) :
 Calls Tryz.prog 105 #[v, .int .i64 room, .int .i64 more] w fun e w' => e = .returned (.int .i64 7) ∧ Below w.heap.size w w' := by
 exact qzrom_1
set_option maxRecDepth 100000 in
theorem room_Fits_yes (v : Value) (l : List Blob) (room more : Int) (w : World) (h : RBl w v l) (h1 : 0 ≤ room) (h2 : room ≤ 4000) (h3 : 0 ≤ more) (h4 : more ≤ 4000) (hp : lackV l room more = 0) :
 Calls Tryz.prog 105 #[v, .int .i64 room, .int .i64 more] w fun e w' => e = .returned (.int .i64 0) ∧ Below w.heap.size w w' := by
 exact qzrom_1
set_option maxRecDepth 100000 in
theorem room_Fits_no (v : Value) (room more : Int) (w : World) (h : ¬ inRoom room more) :
 Calls Tryz.prog 105 #[v, .int .i64 room, .int .i64 more] w fun e w' => e = .returned (.int .i64 4) ∧ w = w' := by
 replace h := hid h
 go_enter Tryz.func105, Tryz.ntmps105
 go_wp2_with fail
 refine (room_Lacks_no _ _ _ _ h.out).mono ?_
 rintro e w1 ⟨rfl, rfl⟩
 go_wp2_with fail
 go_ret
 exact ⟨rfl, rfl⟩
end Go.Proofs.YtpkpgehiplhkpaaGreat

namespace Go.Proofs.YtpkpgehiplhkpaaGreat
open Go.RowKit Go.Deep Go.ChangeShapes Go.WideShapes
structure Coll where
 phase : Int
 grey : List ByteArray
 place : ByteArray
end Go.Proofs.YtpkpgehiplhkpaaGreat
