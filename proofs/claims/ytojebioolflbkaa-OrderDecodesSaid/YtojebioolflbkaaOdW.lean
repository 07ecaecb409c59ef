/-
  order.Decode and the reference's OrderOf over all arguments; the law OrderDecodes: its walk.
-/
import Derived.Test.YtojebioolflbkaaOdiB
import Derived.Test.YtojebioolflbkaaOdrA
import Derived.Test.YtojebioolflbkaaOdrB
import Derived.Test.YtojebioolflbkaaCl
import Derived.Test.YtojebioolflbkaaKB
namespace Go.Proofs.Ytojebioolflbkaa
open Go.RowKit

theorem order_Decode (v : Value) (b : List UInt8) (w : World) (h : RB w v b) : Calls Try.prog 10 #[v] w (OdRes (decOrd b) w) := by
  cases hn : hasN (readNum b).1 with
  | false => exact order_DecodeA v b w h hn
  | true => exact order_DecodeB v b w h hn
theorem ref_OrderOf (v : Value) (b : List UInt8) (w : World) (h : RB w v b) : Calls Try.prog 11 #[v] w (OdRes (decOrd b) w) := by
  cases hn : hasN (readNum b).1 with
  | false => exact ref_OrderOfA v b w h hn
  | true => exact ref_OrderOfB v b w h hn

set_option maxRecDepth 100000 in
set_option maxHeartbeats 1000000 in
theorem law_sameOrder_yes (k n : Int) (d : ByteArray) (dv1 pv1 dv2 pv2 : Value) (x : List UInt8) (l : List Part) (w : World) (a1 : RB w dv1 x) (a2 : RP w pv1 l) (b1 : RB w dv2 x) (b2 : RP w pv2 l) :
    Calls Try.prog 12 #[.agg #[.int .i64 k, .int .i64 n, .string d, dv1, pv1], .agg #[.int .i64 k, .int .i64 n, .string d, dv2, pv2]] w fun e w' => e = .returned (.bool true) ∧ Below w.heap.size w w' := by
  have hA1 := hid a1
  have hA2 := hid a2
  have hB1 := hid b1
  have hB2 := hid b2
  obtain ⟨a, c, rfl, -⟩ := a1
  obtain ⟨a', c', rfl, -⟩ := a2
  obtain ⟨b, f, rfl, -⟩ := b1
  obtain ⟨b', f', rfl, -⟩ := b2
  have bb := b_alloc (b_alloc (Below.refl w.heap.size w) (Obj.cells #[.int .i64 k, .int .i64 n, .string d, .slice a x.length c, .slice a' l.length c'] 31)) (Obj.cells #[.int .i64 k, .int .i64 n, .string d, .slice b x.length f, .slice b' l.length f'] 31)
  go_enter Try.func12, Try.ntmps12
  go_wp2_with fail
  ((with_reducible refine (law_sameBytes_yes _ _ _ x (hA1.out.mono EU8.stable bb) (hB1.out.mono EU8.stable bb)).mono ?_); rintro e w1 ⟨rfl, rfl⟩)
  have hb1 := hid bb
  clear bb
  go_wp2_with fail
  ((with_reducible refine (law_sameParts_yes _ _ _ l (hA2.out.mono EPart.stable hb1.out) (hB2.out.mono EPart.stable hb1.out)).mono ?_); rintro e w2 ⟨rfl, b2⟩)
  have hb2 := hid (b_call hb1.out b2)
  clear b2
  go_wp2_with fail
  go_ret
  exact ⟨rfl, hb2.out⟩

set_option maxRecDepth 100000 in
set_option maxHeartbeats 1000000 in
theorem OrderDecodes_walk (w : World) (v : Value) (b : List UInt8) (h : RB w v b) :
    Calls Try.prog 4 #[v] w fun e w' => e = .returned (.bool true) ∧ Below w.heap.size w w' := by
  have f1 := hid fun w (g : RB w v b) => order_Decode v b w g
  have f2 := hid fun w (g : RB w v b) => ref_OrderOf v b w g
  unfold OdRes at f1 f2
  generalize decOrd b = X at *
  obtain ⟨⟨k, n, d, x, l⟩, z⟩ := X
  simp only at f1 f2
  go_enter Try.func4, Try.ntmps4
  go_wp2_with fail
  ((with_reducible refine (f1.out _ h).mono ?_); rintro e w1 ⟨dv1, pv1, rfl, rd1, rp1, b1⟩)
  obtain ⟨a1, c1, rfl, -⟩ := id rd1
  obtain ⟨a2, c2, rfl, -⟩ := id rp1
  have hb1 := hid (b_alloc b1 (Obj.cells #[.int .i64 k, .int .i64 n, .string d, .slice a1 x.length c1, .slice a2 l.length c2] 31))
  replace rd1 := hid (rd1.mono EU8.stable (b_alloc (Below.refl _ w1) (Obj.cells #[.int .i64 k, .int .i64 n, .string d, .slice a1 x.length c1, .slice a2 l.length c2] 31)))
  replace rp1 := hid (rp1.mono EPart.stable (b_alloc (Below.refl _ w1) (Obj.cells #[.int .i64 k, .int .i64 n, .string d, .slice a1 x.length c1, .slice a2 l.length c2] 31)))
  clear b1
  go_wp2_with fail
  ((with_reducible refine (f2.out _ (h.mono EU8.stable hb1.out)).mono ?_); rintro e w2 ⟨dv2, pv2, rfl, rd2, rp2, b2⟩)
  obtain ⟨a3, c3, rfl, -⟩ := id rd2
  obtain ⟨a4, c4, rfl, -⟩ := id rp2
  have hqA := stays b2 (heap_alloc_new w1 (Obj.cells #[.int .i64 k, .int .i64 n, .string d, .slice a1 x.length c1, .slice a2 l.length c2] 31))
  have hlA := heap_lt hqA
  have hqA2 := (heap_alloc_old w2 (Obj.cells #[.int .i64 k, .int .i64 n, .string d, .slice a3 x.length c3, .slice a4 l.length c4] 31) hlA).trans hqA
  have hqB := heap_alloc_new w2 (Obj.cells #[.int .i64 k, .int .i64 n, .string d, .slice a3 x.length c3, .slice a4 l.length c4] 31)
  have bA := b_alloc (Below.refl _ w2) (Obj.cells #[.int .i64 k, .int .i64 n, .string d, .slice a3 x.length c3, .slice a4 l.length c4] 31)
  have hb2 := hid (b_alloc (b_call hb1.out b2) (Obj.cells #[.int .i64 k, .int .i64 n, .string d, .slice a3 x.length c3, .slice a4 l.length c4] 31))
  have rd1' := hid ((rd1.out.mono EU8.stable b2).mono EU8.stable bA)
  have rp1' := hid ((rp1.out.mono EPart.stable b2).mono EPart.stable bA)
  have rd2' := hid (rd2.mono EU8.stable bA)
  have rp2' := hid (rp2.mono EPart.stable bA)
  obtain ⟨x0, x1, x2, x3, x4⟩ := box5f hqA2
  obtain ⟨y0, y1, y2, y3, y4⟩ := box5f hqB
  clear b2 hqA hqA2 hqB rd2 rp2 rd1 rp1 bA
  go_wp2_with fail
  ((with_reducible refine (law_sameOrder_yes k n d _ _ _ _ x l _ rd1'.out rp1'.out rd2'.out rp2'.out).mono ?_); rintro e w3 ⟨rfl, b3⟩)
  have hb3 := hid (b_call hb2.out b3)
  clear b3
  go_wp2_with fail
  go_ret
  exact ⟨rfl, hb3.out⟩
end Go.Proofs.Ytojebioolflbkaa
