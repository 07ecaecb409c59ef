/-
  Lists of records (Blob): how one lies, where a key is, and the library's IndexFunc on them.
-/
import Derived.Test.YtaojfpgbpakmpaaRec2
import Derived.Test.YtaojfpgbpakmpaaKey
import Derived.Shelf.Abstract
import Derived.Test.YtaojfpgbpakmpaaPrt
namespace Go.Proofs.Ytaojfpgbpakmpaa
open Go.RowKit

def cBlob (x : Blob) (dv : Value) : List Value := [.string x.digest, dv, .int .i64 x.pins, .bool x.mark]
def okBlob (x : Blob) : Prop := x.digest.size ≤ 140737488351232 ∧ (Lit.int .i64 x.pins).wf = true
theorem cBlob_len (x : Blob) (v : Value) : (cBlob x v).length = 4 := rfl
theorem xcBlob_len (r : XR Blob) : (xc cBlob (·.data) r).length = 4 := rfl
theorem xcBlob_one (r : XR Blob) (u : Value) (h : u ∈ xc cBlob (·.data) r) : u.oneCell' = true := by
  simp [xc, cBlob, XR.v] at h
  rcases h with rfl | rfl | rfl | rfl <;> rfl
theorem flat_cBlob : Flat 4 (xc cBlob (·.data)) (ERaw (xc cBlob (·.data))) := flat_raw (by decide) xcBlob_len xcBlob_one
theorem EBlob_iff (w : World) (b o : Nat) (x : Blob) : EBlob w b o x ↔ EX cBlob (·.data) 1 1 EU8 okBlob w b o x := by
  constructor
  · rintro ⟨dv, h0, h1, h2, h3, h5, h6⟩
    refine ⟨dv, fun j u hj => ?_, h5, h6⟩
    rcases j with _ | _ | _ | _ | j <;> simp [cBlob] at hj <;> subst hj <;> assumption
  · rintro ⟨dv, h, h5, h6⟩
    exact ⟨dv, h 0 _ rfl, h 1 _ rfl, h 2 _ rfl, h 3 _ rfl, h5, h6⟩
/-- A list that reads so is a row of raw records. -/
theorem raw_B {w : World} {v : Value} {l : List Blob} (h : RBl w v l) :
    ∃ rs : List (XR Blob), rs.map (·.x) = l ∧ RS 4 56 (ERaw (xc cBlob (·.data))) w v rs ∧ ∀ r ∈ rs, RB w (r.v (·.data)) r.x.data ∧ okBlob r.x :=
  raw_of (RS.iff (fun b o x hx => (EBlob_iff w b o x).1 hx) h)
/-- A row that the call owns from block B on, of records whose slices it owns too. -/
def OBlob (w : World) (B : Nat) (v : Value) (l : List Blob) : Prop := OX 60 4 cBlob (·.data) (CO 5 1 cU8 B) w B v l
theorem reads_B {w : World} {B : Nat} {v : Value} {l : List Blob} (h : OBlob w B v l) (hb : l.length * 56 ≤ 140737488351232) (hC : ∀ x v, x ∈ l → CO 5 1 cU8 B w v x.data → RB w v x.data) (ho : ∀ x ∈ l, okBlob x) : RBl w v l :=
  RS.iff (fun b o x hx => (EBlob_iff w b o x).2 hx) (OX.reads (by decide) xcBlob_len h hb hC ho)

set_option maxRecDepth 100000 in
set_option maxHeartbeats 400000 in
/-- slices.IndexFunc on Blobs. -/
theorem idxFunc_B (g : Nat) (lb : Array Value) (q : Blob → Bool) (eg : ∀ args w, (callFunc g args).run Try.prog w = .ok (.enter g args) w) (v : Value) (l : List Blob) (w : World) (h : RBl w v l)
    (hp : ∀ W x dv, Below w.heap.size w W → okBlob x → RB W dv x.data → Calls Try.prog g (#[.agg #[.string x.digest, dv, .int .i64 x.pins, .bool x.mark]] ++ lb) W fun e w' => e = .returned (.bool (q x)) ∧ Below W.heap.size W w') :
    Calls Try.prog 144 #[v, .func (.func g) #[] lb] w fun e w' => e = .returned (.int .i64 (idxOf q l)) ∧ Below w.heap.size w w' := by
  obtain ⟨a, c, rfl, hlc, hcm, hre, hno, hat⟩ := h
  unfold maxLen at hcm
  replace hat := hid hat
  replace hp := hid hp
  have hy := hid (fun k x hx hq ha => idxOf_hit (q := q) (l := l) (k := k) (x := x) hx hq ha)
  have hn := hid (fun ha => idxOf_miss (q := q) (l := l) ha)
  clear hno
  go_enter Try.func144, Try.ntmps144
  go_wp2_with fail
  go_loopw [5, 8] (fun _ i wr => ∃ k : Nat, k ≤ l.length ∧ i = .int .i64 k ∧ Hid (∀ j x, j < k → l[j]? = some x → q x = false) ∧ Hid (Below w.heap.size w wr)) (fun _ i _ => l.length - (intOf i).toNat)
  case atStart => exact ⟨0, by omega, rfl, hid (fun j x hj => by omega), hid (Below.refl _ _)⟩
  case round =>
    obtain ⟨k, hk, rfl, hall, hb⟩ := hrel
    by_cases hlt : k < l.length
    · have hx : l[k]? = some l[k] := List.getElem?_eq_getElem hlt
      generalize l[k] = x at hx
      obtain ⟨bb, off, rfl, hbb, he⟩ := hat.out k _ hx
      obtain ⟨dv, c0, c1, c2, c3, rdv, okx⟩ := EBlob.stable _ _ _ _ _ hb.out hbb he
      have hbw : bb < wr.heap.size := Nat.lt_of_lt_of_le hbb hb.out.size
      have hcall := hp.out wr x dv hb.out okx rdv
      have hy1 := hid (fun hq => hy.out k x hx hq hall.out)
      have hnx := hid (fun (hq : q x = false) => upto_next_l hall.out hx hq)
      clear hx he rdv
      cases hq : q x with
      | true =>
        rw [hq] at hcall
        replace hcall := hid hcall
        have hr := hid (hy1.out hq)
        clear hq hall
        go_wp2_with fail
        ((with_reducible refine hcall.out.mono ?_); rintro e w1 ⟨rfl, b1⟩)
        go_wp2_with fail
        go_ret
        exact ⟨ret_i hr.out.symm, b_call hb.out b1⟩
      | false =>
        rw [hq] at hcall
        replace hcall := hid hcall
        have hr := hid (hnx.out hq)
        clear hq hall
        go_wp2_with fail
        ((with_reducible refine hcall.out.mono ?_); rintro e w1 ⟨rfl, b1⟩)
        have hb1 := hid (b_call hb.out b1)
        clear b1
        go_wp2_with fail
        go_roundw
        case rel => exact ⟨k + 1, by omega, by go_num, hr, hb1⟩
        case measure => simp [intOf]; omega
    · obtain rfl : k = l.length := by omega
      have hr := hid (hn.out (fun j x hj => hall.out j x (List.getElem?_eq_some_iff.1 hj).1 hj))
      clear hall
      go_wp2_with fail
      go_ret
      exact ⟨ret_i hr.out.symm, hb.out⟩

set_option maxRecDepth 100000 in
set_option maxHeartbeats 400000 in
theorem find1_B (x : Blob) (a : Option Addr) (n c : Nat) (s : ByteArray) (p : Nat) (w : World) (hc : w.cell? ⟨p, 0, none⟩ = some (.string s)) (hp : p < w.heap.size) :
    Calls Try.prog 145 #[.agg #[.string x.digest, .slice a n c, .int .i64 x.pins, .bool x.mark], .pointer (some ⟨p, 0, none⟩)] w fun e w' => e = .returned (.bool (x.digest.toList == s.toList)) ∧ Below w.heap.size w w' := by
  go_enter Try.func145, Try.ntmps145
  go_wp2_with fail
  go_ret
  exact ⟨rfl, b_alloc (Below.refl _ _) _⟩

set_option maxRecDepth 100000 in
set_option maxHeartbeats 400000 in
theorem blob_Find (v : Value) (l : List Blob) (s : ByteArray) (w : World) (h : RBl w v l) :
    Calls Try.prog 53 #[v, .string s] w fun e w' => e = .returned (.tuple #[.int .i64 (findI (·.digest) s l), .int .i64 (findE (·.digest) s l)]) ∧ Below w.heap.size w w' := by
  have hl : l.length ≤ 140737488351232 := by obtain ⟨_, _, _, _, _, hre, _⟩ := h; omega
  have hi := idxFunc_B 145 #[.pointer (some ⟨w.heap.size, 0, none⟩)] (fun x => x.digest.toList == s.toList) (enters_of Try.func145 (by kernel_rfl) rfl) v l (w.alloc (.cells #[.string s] 9)) (h.mono EBlob.stable (b_alloc (Below.refl _ _) _))
    (fun W x dv hb _ hd => by
      obtain ⟨a, c, rfl, -⟩ := hd
      exact find1_B x a _ c s w.heap.size W (by rw [hb.cell (p := ⟨w.heap.size, 0, none⟩) (by simp)]; rw [cell_of_row _ _ _ _ _ _ (heap_alloc_new w _)]; rfl) (by have := hb.size; simp at this; omega))
  have hcase := idx_cases (·.digest) s l
  generalize idxOf (fun x : Blob => x.digest.toList == s.toList) l = r at hi hcase
  generalize findI (fun x : Blob => x.digest) s l = fi at hcase ⊢
  generalize findE (fun x : Blob => x.digest) s l = fe at hcase ⊢
  replace hi := hid hi
  rcases hcase with ⟨rfl, rfl, rfl⟩ | ⟨h0, rfl, rfl⟩
  · go_enter Try.func53, Try.ntmps53
    go_wp2_with fail
    ((with_reducible refine hi.out.mono ?_); rintro e w1 ⟨rfl, b1⟩)
    go_wp2_with fail
    go_ret2
    exact ⟨rfl, b_call (b_alloc (Below.refl _ _) _) b1⟩
  · have hneg : decide (fi < 0) = false := by simp; omega
    go_enter Try.func53, Try.ntmps53
    go_wp2_with fail
    ((with_reducible refine hi.out.mono ?_); rintro e w1 ⟨rfl, b1⟩)
    go_wp2_with fail
    go_ret2
    exact ⟨rfl, b_call (b_alloc (Below.refl _ _) _) b1⟩
end Go.Proofs.Ytaojfpgbpakmpaa
