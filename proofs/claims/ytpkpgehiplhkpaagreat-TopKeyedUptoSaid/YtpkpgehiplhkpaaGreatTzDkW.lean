import Derived.Test.YtpkpgehiplhkpaaGreatTzDkO
import Derived.Test.YtpkpgehiplhkpaaGreatTzExB
namespace Go.Proofs.YtpkpgehiplhkpaaGreat
open Go.RowKit
def GreyOk (l : List ByteArray) : Prop := l.length * 16 ≤ 140737488351232 ∧ ∀ s ∈ l, s.size ≤ 140737488351232
def FlOk (l : List Flight) : Prop := l.length * 48 ≤ 140737488351232 ∧ ∀ x ∈ l, FitFlight x
def WhoOk (l : List Int) : Prop := l.length * 8 ≤ 140737488351232 ∧ ∀ n ∈ l, (Lit.int .i64 n).wf = true
theorem GreyOk.of {w : World} {v : Value} {l : List ByteArray} (h : RT w v l) : GreyOk l := ⟨rt_bound h, rt_sizes h⟩
theorem FlOk.of {w : World} {v : Value} {l : List Flight} (h : RF w v l) : FlOk l := ⟨rf_bound h, fit_F h⟩
theorem WhoOk.of {w : World} {v : Value} {l : List Int} (h : RI w v l) : WhoOk l := ⟨ri_bound h, ri_wf h⟩
theorem whoOk_nil : WhoOk [] := ⟨by decide, fun _ h => by cases h⟩
abbrev dcells (L : Loft) (a1 : Option Addr) (c1 : Nat) (a2 : Option Addr) (c2 : Nat) (a3 : Option Addr) (c3 : Nat) (a4 : Option Addr) (c4 : Nat) : Array Value :=
 #[.slice a1 L.store.blobs.length c1, .slice a2 L.store.entries.length c2, .int .i64 L.store.room, .int .i64 L.store.clock, .int .i64 L.coll.phase, .slice a3 L.coll.grey.length c3, .string L.coll.place, .slice a4 L.flights.length c4]
structure LoftIs (w : World) (B : Nat) (L : Loft) (a1 : Option Addr) (c1 : Nat) (a2 : Option Addr) (c2 : Nat) (a3 : Option Addr) (c3 : Nat) (a4 : Option Addr) (c4 : Nat) : Prop where
 rb : RBl w (.slice a1 L.store.blobs.length c1) L.store.blobs
 re : RE w (.slice a2 L.store.entries.length c2) L.store.entries
 og : OS 9 1 cStr w B (.slice a3 L.coll.grey.length c3) L.coll.grey
 of : OFlight w B (.slice a4 L.flights.length c4) L.flights
 gk : GreyOk L.coll.grey
 fk : FlOk L.flights
def DeskAt (w : World) (p : Nat) (L : Loft) : Prop :=
 ∃ a1 c1 a2 c2 a3 c3 a4 c4, w.heap[p]? = some (.cells (dcells L a1 c1 a2 c2 a3 c3 a4 c4) 94 (0, 0)) ∧ LoftIs w (p + 1) L a1 c1 a2 c2 a3 c3 a4 c4
def DeskPost (p : Nat) (L : Loft) (y : Rep) (w : World) (e : Ending) (w' : World) : Prop :=
 ∃ dv pv wv, e = .returned (.agg #[.int .i64 y.err, .string y.digest, dv, pv, .int .i64 y.n, wv]) ∧ DeskAt w' p L ∧ RB w' dv y.data ∧ RP w' pv y.parts ∧ OS 3 1 cI w' (p + 1) wv y.who ∧ WhoOk y.who ∧ Ex p w w'
section
variable {w w' : World} {B p q : Nat} {v : Value}
theorem OS.ex {α : Type} {e : TypeId} {s : Nat} {cells : α → List Value} {l : List α} (h : OS e s cells w B v l) (hx : Ex p w w') (hp : p < B) : OS e s cells w' B v l :=
 OS.keptBy h hx fun b hb hv => by
  have := OS.block h b hv
  simp only [Option.some.injEq] at hb
  omega
theorem OS.exT {α : Type} {e T : TypeId} {s : Nat} {cells : α → List Value} {l : List α} {cs : Array Value} {fr : Nat × Nat} (h : OS e s cells w B v l) (hx : Ex q w w') (hq : w.heap[q]? = some (.cells cs T fr)) (hT : T ≠ e) : OS e s cells w' B v l :=
 OS.keptBy h hx fun b hb => by
  simp only [Option.some.injEq] at hb
  subst hb
  exact OS.block_ne h hq hT
theorem OFlight.ex {l : List Flight} (h : OFlight w B v l) (hx : Ex p w w') (hp : p < B) : OFlight w' B v l := by
 obtain ⟨rs, h1, h2, h3⟩ := h
 exact ⟨rs, h1, OS.ex h2 hx hp, fun r hr => OS.ex (h3 r hr) hx hp⟩
theorem OFlight.exT {T : TypeId} {l : List Flight} {cs : Array Value} {fr : Nat × Nat} (h : OFlight w B v l) (hx : Ex q w w') (hq : w.heap[q]? = some (.cells cs T fr)) (h1 : T ≠ 138) (h2 : T ≠ 3) : OFlight w' B v l := by
 obtain ⟨rs, q1, q2, q3⟩ := h
 exact ⟨rs, q1, OS.exT q2 hx hq h1, fun r hr => OS.exT (q3 r hr) hx hq h2⟩
theorem Ex.keep {x : Obj} (h : Ex p w w') (hq : w.heap[q]? = some x) (hn : q ≠ p) : w'.heap[q]? = some x := (h.block q (Array.getElem?_eq_some_iff.1 hq).1 (by simp; exact hn)).trans hq
theorem Ex.later {w1 : World} (h : Ex p w w1) (k : Ex q w1 w') (hq : w.heap.size ≤ q) : Ex p w w' :=
 ⟨k.os.trans h.os, k.tape.trans h.tape, k.output.trans h.output, Nat.le_trans h.size k.size, fun i hi hn => (k.block i (Nat.lt_of_lt_of_le hi h.size) (by simp; omega)).trans (h.block i hi hn)⟩
theorem LoftIs.ex {L : Loft} {a1 a2 a3 a4 : Option Addr} {c1 c2 c3 c4 : Nat} (h : LoftIs w B L a1 c1 a2 c2 a3 c3 a4 c4) (hx : Ex p w w') (ho : Odd w p) (hp : p < B) : LoftIs w' B L a1 c1 a2 c2 a3 c3 a4 c4 :=
 have ha : ∀ g, some p = some g → Odd w g := fun g e => by cases e; exact ho
 ⟨h.rb.odd hx ha, h.re.odd hx ha, h.og.ex hx hp, h.of.ex hx hp, h.gk, h.fk⟩
theorem LoftIs.exT {L : Loft} {a1 a2 a3 a4 : Option Addr} {c1 c2 c3 c4 : Nat} {cs : Array Value} {T : TypeId} (h : LoftIs w B L a1 c1 a2 c2 a3 c3 a4 c4) (hx : Ex q w w') (ho : Odd w q) (hq : w.heap[q]? = some (.cells cs T (0, 0))) (h1 : T ≠ 9) (h2 : T ≠ 138) (h3 : T ≠ 3) : LoftIs w' B L a1 c1 a2 c2 a3 c3 a4 c4 :=
 have ha : ∀ g, some q = some g → Odd w g := fun g e => by cases e; exact ho
 ⟨h.rb.odd hx ha, h.re.odd hx ha, h.og.exT hx hq h1, h.of.exT hx hq h2 h3, h.gk, h.fk⟩
theorem LoftIs.low {L : Loft} {B' : Nat} {a1 a2 a3 a4 : Option Addr} {c1 c2 c3 c4 : Nat} (h : LoftIs w B L a1 c1 a2 c2 a3 c3 a4 c4) (hB : B' ≤ B) : LoftIs w B' L a1 c1 a2 c2 a3 c3 a4 c4 := ⟨h.rb, h.re, h.og.mono hB, h.of.low hB, h.gk, h.fk⟩
theorem LoftIs.below {L : Loft} {a1 a2 a3 a4 : Option Addr} {c1 c2 c3 c4 : Nat} (h : LoftIs w B L a1 c1 a2 c2 a3 c3 a4 c4) (hb : Below w.heap.size w w') : LoftIs w' B L a1 c1 a2 c2 a3 c3 a4 c4 := ⟨h.rb.mono EBlob.stable hb, h.re.mono EEntry.stable hb, h.og.below hb, h.of.after hb, h.gk, h.fk⟩
theorem LoftIs.rt {L : Loft} {a1 a2 a3 a4 : Option Addr} {c1 c2 c3 c4 : Nat} (h : LoftIs w B L a1 c1 a2 c2 a3 c3 a4 c4) : RT w (.slice a3 L.coll.grey.length c3) L.coll.grey := reads_str h.og h.gk.1 h.gk.2
theorem LoftIs.rf {L : Loft} {a1 a2 a3 a4 : Option Addr} {c1 c2 c3 c4 : Nat} (h : LoftIs w B L a1 c1 a2 c2 a3 c3 a4 c4) : RF w (.slice a4 L.flights.length c4) L.flights := h.of.toR h.fk.1 h.fk.2
theorem desk_kept {L N : Loft} {e : Int} {a1 a2 a3 a4 b1 b2 b3 b4 : Option Addr} {c1 c2 c3 c4 d1 d2 d3 d4 : Nat} (hp : w.heap[p]? = some (.cells (dcells L a1 c1 a2 c2 a3 c3 a4 c4) 94 (0, 0))) (hL : LoftIs w (p + 1) L a1 c1 a2 c2 a3 c3 a4 c4) (hN : LoftIs w (p + 1) N b1 d1 b2 d2 b3 d3 b4 d4)
 (hx : Ex p w w') (hp' : w'.heap[p]? = some (.cells (if e = 0 then dcells N b1 d1 b2 d2 b3 d3 b4 d4 else dcells L a1 c1 a2 c2 a3 c3 a4 c4) 94 (0, 0))) : DeskAt w' p (if e = 0 then N else L) := by
 by_cases h : e = 0
 · rw [if_pos h] at hp' ⊢
   exact ⟨b1, d1, b2, d2, b3, d3, b4, d4, hp', hN.ex hx (desk_odd hp) (by omega)⟩
 rw [if_neg h] at hp' ⊢
 exact ⟨a1, c1, a2, c2, a3, c3, a4, c4, hp', hL.ex hx (desk_odd hp) (by omega)⟩
theorem rep_odd {c0 c4 : Int} {s : ByteArray} {x y z : Option Addr} {k l m k' l' m' : Nat} (h : w.heap[q]? = some (.cells #[.int .i64 c0, .string s, .slice x k k', .slice y l l', .int .i64 c4, .slice z m m'] 45 (0, 0))) : Odd w q := by
 intro o
 have hc : ∀ o, w.cell? ⟨q, o, none⟩ = (#[Value.int .i64 c0, .string s, .slice x k k', .slice y l l', .int .i64 c4, .slice z m m'])[o]? := fun o => cell_of_row w q o _ _ _ h
 rw [hc, hc, hc]
 match o with
 | 0 => simp
 | 1 => simp
 | 2 => simp
 | 3 => simp
 | 4 => simp
 | 5 => simp
 | o + 6 => simp
theorem DeskAt.exT {L : Loft} {c0 c4 : Int} {s : ByteArray} {x y z : Option Addr} {k l m k' l' m' : Nat} (h : DeskAt w p L) (hx : Ex q w w') (hq : w.heap[q]? = some (.cells #[.int .i64 c0, .string s, .slice x k k', .slice y l l', .int .i64 c4, .slice z m m'] 45 (0, 0))) (hn : p ≠ q) : DeskAt w' p L := by
 obtain ⟨a1, c1, a2, c2, a3, c3, a4, c4, hp, hL⟩ := h
 exact ⟨a1, c1, a2, c2, a3, c3, a4, c4, hx.keep hp hn, hL.exT hx (rep_odd hq) hq (by decide) (by decide) (by decide)⟩
theorem DeskAt.below {L : Loft} (h : DeskAt w p L) (hb : Below w.heap.size w w') : DeskAt w' p L := by
 obtain ⟨a1, c1, a2, c2, a3, c3, a4, c4, hp, hL⟩ := h
 exact ⟨a1, c1, a2, c2, a3, c3, a4, c4, stays hb hp, hL.below hb⟩
theorem post_ok {L : Loft} {y : Rep} {dv pv wv : Value} {w5 : World} {c0 c4 : Int} {s : ByteArray} {a b c : Option Addr} {k l m k' l' m' : Nat} (hd : DeskAt w5 p L) (h0 : Ex p w w5) (hq : w5.heap[q]? = some (.cells #[.int .i64 c0, .string s, .slice a k k', .slice b l l', .int .i64 c4, .slice c m m'] 45 (0, 0)))
 (hn : w.heap.size ≤ q) (hpq : p ≠ q) (rd : RB w5 dv y.data) (rp : RP w5 pv y.parts) (ow : OS 3 1 cI w5 (p + 1) wv y.who) (hw : WhoOk y.who) (hx : Ex q w5 w') :
 DeskPost p L y w (.returned (.agg #[.int .i64 y.err, .string y.digest, dv, pv, .int .i64 y.n, wv])) w' :=
 have ha : ∀ g, some q = some g → Odd w5 g := fun g e => by cases e; exact rep_odd hq
 ⟨dv, pv, wv, rfl, hd.exT hx hq hpq, rd.odd hx ha, rp.odd hx ha, ow.exT hx hq (by decide), hw, h0.later hx hn⟩
theorem box8_setE {w : World} {q : Nat} {x0 x1 x2 x3 x4 x5 x6 x7 u0 u1 u2 u3 u4 u5 u6 u7 : Value} {T : TypeId} (h : w.heap[q]? = some (.cells #[x0, x1, x2, x3, x4, x5, x6, x7] T (0, 0))) :
 Ex q w ((((((((w.setCell ⟨q, 0, none⟩ u0).setCell ⟨q, 1, none⟩ u1).setCell ⟨q, 2, none⟩ u2).setCell ⟨q, 3, none⟩ u3).setCell ⟨q, 4, none⟩ u4).setCell ⟨q, 5, none⟩ u5).setCell ⟨q, 6, none⟩ u6).setCell ⟨q, 7, none⟩ u7) :=
 have _ := h
 (((((((Ex.of (p := q) (Below.refl _ w)).set.set).set).set).set).set).set).set
def AkMid (p : Nat) (N : Loft) (P : List Part) (is : Bool) (er : Int) (w2 : World) (s5 s6 s7 s8 : Value) (wx : World) : Prop :=
 ∃ x a1 c1 a2 c2 a3 c3 a4 c4 b5 d5, s5 = .pointer (some ⟨x, 0, none⟩) ∧ s6 = .slice b5 P.length d5 ∧ s7 = .bool is ∧ s8 = .int .i64 er ∧ w2.heap.size ≤ x ∧
   wx.heap[x]? = some (.cells (dcells N a1 c1 a2 c2 a3 c3 a4 c4) 35 (0, 0)) ∧ LoftIs wx (p + 1) N a1 c1 a2 c2 a3 c3 a4 c4 ∧ RP wx (.slice b5 P.length d5) P ∧ Below w2.heap.size w2 wx
theorem box4_setE {w : World} {q : Nat} {x0 x1 x2 x3 u0 u1 u2 u3 : Value} {T : TypeId} (h : w.heap[q]? = some (.cells #[x0, x1, x2, x3] T (0, 0))) :
 Ex q w ((((w.setCell ⟨q, 0, none⟩ u0).setCell ⟨q, 1, none⟩ u1).setCell ⟨q, 2, none⟩ u2).setCell ⟨q, 3, none⟩ u3) :=
 have _ := h
 (((Ex.of (p := q) (Below.refl _ w)).set.set).set).set
theorem store_odd {w : World} {p : Nat} {a1 a2 : Option Addr} {n1 c1 n2 c2 : Nat} {r t : Int} {T : TypeId} (h : w.heap[p]? = some (.cells #[.slice a1 n1 c1, .slice a2 n2 c2, .int .i64 r, .int .i64 t] T (0, 0))) : Odd w p := by
 intro o
 have hc : ∀ o, w.cell? ⟨p, o, none⟩ = (#[Value.slice a1 n1 c1, .slice a2 n2 c2, .int .i64 r, .int .i64 t])[o]? := fun o => cell_of_row w p o _ T _ h
 rw [hc, hc, hc]
 match o with
 | 0 => simp
 | 1 => simp
 | 2 => simp
 | 3 => simp
 | o + 4 => simp
def GtMid (B : List Blob) (E : List Entry) (r t : Int) (P : List Part) (er : Int) (w2 : World) (s5 s6 s7 : Value) (wx : World) : Prop :=
 ∃ x b1 d1 b2 d2 b5 d5, s5 = .pointer (some ⟨x, 0, none⟩) ∧ s6 = .slice b5 P.length d5 ∧ s7 = .int .i64 er ∧ w2.heap.size ≤ x ∧
   wx.heap[x]? = some (.cells #[.slice b1 B.length d1, .slice b2 E.length d2, .int .i64 r, .int .i64 t] 29 (0, 0)) ∧ RBl wx (.slice b1 B.length d1) B ∧ RE wx (.slice b2 E.length d2) E ∧ RP wx (.slice b5 P.length d5) P ∧ Below w2.heap.size w2 wx
def GkMid (p : Nat) (er : Int) (new old : Array Value) (wc : World) (s8 : Value) (wx : World) : Prop :=
 ∃ z, s8 = .pointer (some ⟨z, 0, none⟩) ∧ wc.heap.size ≤ z ∧ wx.heap[z]? = some (.cells #[.int .i64 er, .string ⟨#[]⟩, .slice none 0 0, .slice none 0 0, .int .i64 0, .slice none 0 0] 45 (0, 0)) ∧
   wx.heap[p]? = some (.cells (if er = 0 then new else old) 94 (0, 0)) ∧ Ex p wc wx
def PbMid (p : Nat) (B : List Blob) (E : List Entry) (r t k : Int) (G : List ByteArray) (s D : ByteArray) (er : Int) (w2 : World) (s5 s6 s7 s8 : Value) (wx : World) : Prop :=
 ∃ x y b1 d1 b2 d2 b3 d3, s5 = .pointer (some ⟨x, 0, none⟩) ∧ s6 = .pointer (some ⟨y, 0, none⟩) ∧ s7 = .string D ∧ s8 = .int .i64 er ∧
   wx.heap[x]? = some (.cells #[.slice b1 B.length d1, .slice b2 E.length d2, .int .i64 r, .int .i64 t] 29 (0, 0)) ∧ wx.heap[y]? = some (.cells #[.int .i64 k, .slice b3 G.length d3, .string s] 32 (0, 0)) ∧
   RBl wx (.slice b1 B.length d1) B ∧ RE wx (.slice b2 E.length d2) E ∧ OS 9 1 cStr wx (p + 1) (.slice b3 G.length d3) G ∧ GreyOk G ∧ Below w2.heap.size w2 wx
end
end Go.Proofs.YtpkpgehiplhkpaaGreat

namespace Go.Proofs.YtpkpgehiplhkpaaGreat
open Go.RowKit
def waitsB (s : ByteArray) (l : List Flight) : Bool := l.any fun f => decide (f.key = s)
theorem waits_yes {s : ByteArray} {l : List Flight} {k : Nat} {x : Flight} (h : l[k]? = some x) (hk : x.key = s) : waitsB s l = true := by
 unfold waitsB
 rw [List.any_eq_true]
 exact ⟨x, List.mem_of_getElem? h, decide_eq_true hk⟩
theorem waits_no {s : ByteArray} {l : List Flight} (h : ∀ (j : Nat) (x : Flight), l[j]? = some x → x.key ≠ s) : waitsB s l = false := by
 unfold waitsB
 rw [List.any_eq_false]
 intro x hx
 obtain ⟨j, hj⟩ := List.getElem?_of_mem hx
 rw [decide_eq_true_eq]
 exact h j x hj
set_option maxRecDepth 100000 in
set_option maxHeartbeats 2000000 in
theorem desk_waits (a1 a2 a3 a4 da pa : Option Addr) (n1 c1 n2 c2 n3 c3 c4 dn dc pn pc : Nat) (r t ph k n : Int) (pl s : ByteArray) (fl : List Flight) (w : World) (h : RF w (.slice a4 fl.length c4) fl) :
 Calls Tryz.prog 154 #[.agg #[.slice a1 n1 c1, .slice a2 n2 c2, .int .i64 r, .int .i64 t, .int .i64 ph, .slice a3 n3 c3, .string pl, .slice a4 fl.length c4], .agg #[.int .i64 k, .int .i64 n, .string s, .slice da dn dc, .slice pa pn pc]] w fun e w' => e = .returned (.bool (waitsB s fl)) ∧ Below w.heap.size w w' := by
 have hF := hid h
 have hfb := rf_bound h
 obtain ⟨B, hB⟩ : ∃ B, Hid (waitsB s fl = B) := ⟨_, hid rfl⟩
 have hy := hid (fun k x (h1 : fl[k]? = some x) h2 => (waits_yes h1 h2 : waitsB s fl = true))
 have hn := hid (fun h1 => (waits_no h1 : waitsB s fl = false))
 rw [hB.out] at hy hn ⊢
 clear h hB
 go_enter Tryz.func154, Tryz.ntmps154
 go_upto_region 1 with fail
 have hX := hid (alloc_keep (o := Obj.cells #[.int .i64 k, .int .i64 n, .string s, .slice da dn dc, .slice pa pn pc] 47) (heap_alloc_new w (Obj.cells #[.slice a1 n1 c1, .slice a2 n2 c2, .int .i64 r, .int .i64 t, .int .i64 ph, .slice a3 n3 c3, .string pl, .slice a4 fl.length c4] 35)))
 have hO := hid (heap_put (w.alloc (Obj.cells #[.slice a1 n1 c1, .slice a2 n2 c2, .int .i64 r, .int .i64 t, .int .i64 ph, .slice a3 n3 c3, .string pl, .slice a4 fl.length c4] 35)) (Obj.cells #[.int .i64 k, .int .i64 n, .string s, .slice da dn dc, .slice pa pn pc] 47) (w.heap.size + 1) (by simp))
 have hb := hid (b_alloc (b_alloc (Below.refl _ w) (Obj.cells #[.slice a1 n1 c1, .slice a2 n2 c2, .int .i64 r, .int .i64 t, .int .i64 ph, .slice a3 n3 c3, .string pl, .slice a4 fl.length c4] 35)) (Obj.cells #[.int .i64 k, .int .i64 n, .string s, .slice da dn dc, .slice pa pn pc] 47))
 generalize (w.alloc (Obj.cells #[.slice a1 n1 c1, .slice a2 n2 c2, .int .i64 r, .int .i64 t, .int .i64 ph, .slice a3 n3 c3, .string pl, .slice a4 fl.length c4] 35)).alloc (Obj.cells #[.int .i64 k, .int .i64 n, .string s, .slice da dn dc, .slice pa pn pc] 47) = w2 at *
 obtain ⟨x0, x1, x2, x3, x4, x5, x6, x7⟩ := box8f hX.out
 have hol := heap_lt hO.out
 go_wp2_with fail
 clear x0 x1 x2 x3 x4 x5 x6 x7
 go_loopw [6, 10] (fun _ i wr => ∃ m : Nat, i = .int .i64 (m : Int) ∧ m ≤ fl.length ∧ Hid (∀ (j : Nat) (x : Flight), j < m → fl[j]? = some x → x.key ≠ s) ∧ Hid (Below w2.heap.size w2 wr)) (fun _ i _ => fl.length - (intOf i).toNat)
 case atStart => exact ⟨0, rfl, by omega, hid (fun j x hj => by omega), hid (Below.refl _ _)⟩
 obtain ⟨m, rfl, hm, hno, hbr⟩ := hrel
 by_cases hlt : m < fl.length
 · obtain ⟨x, hx⟩ : ∃ x, fl[m]? = some x := ⟨_, List.getElem?_eq_getElem hlt⟩
   obtain ⟨bb, off, ha, hbb, he⟩ : ∃ bb off, a4 = some ⟨bb, off, none⟩ ∧ bb < wr.heap.size ∧ EFlight wr bb (off + m * 3) x := by
    obtain ⟨_, _, hv, _, _, _, _, hat⟩ := (hF.out.mono EFlight.stable (b_call hb.out hbr.out))
    simp only [Value.slice.injEq] at hv
    obtain ⟨rfl, -, -⟩ := hv
    exact hat m x hx
   subst ha
   obtain ⟨dv, q0, q1, q2, rdv, -⟩ := he
   obtain ⟨va, vc, rfl, -⟩ := rdv
   have o5 := ord5f (stays hbr.out hO.out)
   have o2 := o5.2.2.1
   clear o5
   have hol2 : w.heap.size + 1 < wr.heap.size := Nat.lt_of_lt_of_le hol hbr.out.size
   have hs2 := hbr.out.size
   by_cases hk : x.key = s
   · have hBt := hy.out m x hx hk
     subst hBt
     have q9 : (x.key.toList == s.toList) = true := by simp [hk]
     replace hk := hid hk
     replace hx := hid hx
     go_wp2_with fail
     go_ret
     exact ⟨rfl, b_alloc (b_call hb.out hbr.out) _⟩
   have q9 := str_ne hk
   have hno2 : Hid (∀ (j : Nat) (x : Flight), j < m + 1 → fl[j]? = some x → x.key ≠ s) := hid (fun j y hj hy => by
    by_cases h : j = m
    · subst h; rw [hx] at hy; cases hy; exact hk
    · exact hno.out j y (by omega) hy)
   replace hx := hid hx
   replace hk := hid hk
   go_wp2_with fail
   go_roundw
   case rel => exact ⟨m + 1, by go_num, by omega, hno2, hid (b_alloc hbr.out _)⟩
   case measure => simp [intOf]; omega
 obtain rfl : m = fl.length := by omega
 have hBf := hn.out (fun j x hj => hno.out j x (List.getElem?_eq_some_iff.1 hj).1 hj)
 subst hBf
 go_wp2_with fail
 go_ret
 exact ⟨rfl, b_call hb.out hbr.out⟩
end Go.Proofs.YtpkpgehiplhkpaaGreat
