import Derived.Test.YtpkpgehiplhkpaaGreatTzHx
import Derived.Test.YtpkpgehiplhkpaaGreatTzKF
namespace Go.Proofs.YtpkpgehiplhkpaaGreat
open Go.RowKit
theorem qzflx_1 {P : Prop} (h : P := by
 rw [hr]
 clear hr
 go_enter Tryz.func135, Tryz.ntmps135
 go_wp2_with fail
 go_ret
 exact ⟨rfl, rfl⟩) : P := h
def crewFault (c : List Int) : Nat → List Int → Int
 | _, [] => 0
 | k, n :: l => if n < 1 ∨ 1000 < n then 4 else if n ∈ c.take k then 6 else crewFault c (k + 1) l
theorem crew_step {c : List Int} {k : Nat} {n z : Int} (h : z = crewFault c k (c.drop k)) (hn : c[k]? = some n) (h1 : 1 ≤ n ∧ n ≤ 1000) (h2 : n ∉ c.take k) : z = crewFault c (k + 1) (c.drop (k + 1)) := by
 obtain ⟨hk, rfl⟩ := List.getElem?_eq_some_iff.1 hn
 rw [h, List.drop_eq_getElem_cons hk, crewFault, if_neg (by omega), if_neg h2]
theorem crew_range {c : List Int} {k : Nat} {n z : Int} (h : z = crewFault c k (c.drop k)) (hn : c[k]? = some n) (h1 : ¬ (1 ≤ n ∧ n ≤ 1000)) : z = 4 := by
 obtain ⟨hk, rfl⟩ := List.getElem?_eq_some_iff.1 hn
 rw [h, List.drop_eq_getElem_cons hk, crewFault, if_pos (by omega)]
theorem crew_twice {c : List Int} {k : Nat} {n z : Int} (h : z = crewFault c k (c.drop k)) (hn : c[k]? = some n) (h1 : 1 ≤ n ∧ n ≤ 1000) (h2 : n ∈ c.take k) : z = 6 := by
 obtain ⟨hk, rfl⟩ := List.getElem?_eq_some_iff.1 hn
 rw [h, List.drop_eq_getElem_cons hk, crewFault, if_neg (by omega), if_pos h2]
theorem crew_end {c : List Int} {z : Int} (h : z = crewFault c c.length (c.drop c.length)) : z = 0 := by rw [h, List.drop_length]; rfl
def crewOf (x : Flight) : List Int := x.leader :: x.waiters
def flightFault (l : List Flight) (k : Nat) (x : Flight) : Int :=
 if hexFault x.key ≠ 0 then hexFault x.key else if atKey (·.key) x.key l < k then 6 else if 5 < x.waiters.length then 1 else crewFault (crewOf x) 0 (crewOf x)
def flightsFrom (l : List Flight) : Nat → List Flight → Int
 | _, [] => 0
 | k, x :: r => if flightFault l k x = 0 then flightsFrom l (k + 1) r else flightFault l k x
def flightsFault (l : List Flight) : Int := if 6 < l.length then 1 else flightsFrom l 0 l
theorem flights_long {l : List Flight} (h : 6 < l.length) : flightsFault l = 1 := by unfold flightsFault; rw [if_pos h]
theorem flights_short {l : List Flight} (h : ¬ 6 < l.length) : flightsFault l = flightsFrom l 0 (l.drop 0) := by unfold flightsFault; rw [if_neg h]; rfl
theorem flights_step {l : List Flight} {k : Nat} {x : Flight} {z : Int} (h : z = flightsFrom l k (l.drop k)) (hx : l[k]? = some x) (h0 : flightFault l k x = 0) : z = flightsFrom l (k + 1) (l.drop (k + 1)) := by
 obtain ⟨hk, rfl⟩ := List.getElem?_eq_some_iff.1 hx
 rw [h, List.drop_eq_getElem_cons hk, flightsFrom, if_pos h0]
theorem flights_stop {l : List Flight} {k : Nat} {x : Flight} {z n : Int} (h : z = flightsFrom l k (l.drop k)) (hx : l[k]? = some x) (h0 : flightFault l k x = n) (hn : n ≠ 0) : z = n := by
 obtain ⟨hk, rfl⟩ := List.getElem?_eq_some_iff.1 hx
 rw [h, List.drop_eq_getElem_cons hk, flightsFrom, if_neg (by rw [h0]; exact hn), h0]
theorem flights_end {l : List Flight} {z : Int} (h : z = flightsFrom l l.length (l.drop l.length)) : z = 0 := by rw [h, List.drop_length]; rfl
theorem fl_hex {l : List Flight} {k : Nat} {x : Flight} (h : hexFault x.key ≠ 0) : flightFault l k x = hexFault x.key := by unfold flightFault; rw [if_pos h]
theorem fl_twice {l : List Flight} {k : Nat} {x : Flight} (h : hexFault x.key = 0) (h2 : atKey (·.key) x.key l < k) : flightFault l k x = 6 := by unfold flightFault; rw [if_neg (not_not_intro h), if_pos h2]
theorem fl_size {l : List Flight} {k : Nat} {x : Flight} (h : hexFault x.key = 0) (h2 : ¬ atKey (·.key) x.key l < k) (h3 : 5 < x.waiters.length) : flightFault l k x = 1 := by unfold flightFault; rw [if_neg (not_not_intro h), if_neg h2, if_pos h3]
theorem fl_crew {l : List Flight} {k : Nat} {x : Flight} (h : hexFault x.key = 0) (h2 : ¬ atKey (·.key) x.key l < k) (h3 : ¬ 5 < x.waiters.length) : flightFault l k x = crewFault (crewOf x) 0 ((crewOf x).drop 0) := by
 unfold flightFault; rw [if_neg (not_not_intro h), if_neg h2, if_neg h3]; rfl
theorem atKey_take {α : Type} (f : α → ByteArray) (s : ByteArray) : ∀ (l : List α) (i : Nat), i ≤ l.length → atKey f s (l.take i) = if atKey f s l < i then atKey f s l else i
 | _, 0, _ => by simp [atKey]
 | [], i + 1, h => by simp at h
 | x :: l, i + 1, h => by
   rw [List.take_succ_cons, atKey, atKey]
   split
   · simp
   rw [atKey_take f s l i (by simpa using h)]
   split <;> split <;> omega
open Go.Maps (Keyed)
theorem os_oneI (w1 : World) (B k : Nat) (n : Int) (hk : k = w1.heap.size) (hB : B ≤ w1.heap.size) : OS 3 1 cI (w1.alloc (.cells #[.int .i64 n] 3)) B (.slice (some ⟨k, 0, none⟩) 1 1) [n] := by
 subst hk
 exact ⟨rfl, .inr ⟨w1.heap.size, 1, #[.int .i64 n], rfl, hB, heap_alloc_new w1 _, Nat.le_refl _, by simp [maxLen], rfl, rfl⟩⟩
def someB (n : Int) : Bool := decide (1 ≤ n ∧ n ≤ 1000)
set_option maxRecDepth 100000 in
theorem flight_who (n : Int) (w : World) : Calls Tryz.prog 135 #[.int .i64 n] w fun e w' => e = .returned (.bool (someB n)) ∧ w = w' := by
 by_cases h1 : 1 ≤ n
 · have q1 : decide (1 ≤ n) = true := by simp [h1]
   by_cases h2 : n ≤ 1000
   · have q2 : decide (n ≤ 1000) = true := by simp [h2]
     have hr : someB n = true := by simp [someB, h1, h2]
     exact qzflx_1
   have q2 : decide (n ≤ 1000) = false := by simp; omega
   have hr : someB n = false := by simp [someB]; omega
   exact qzflx_1
 have q1 : decide (1 ≤ n) = false := by simp; omega
 have hr : someB n = false := by simp [someB]; omega
 exact qzflx_1
set_option maxRecDepth 100000 in
set_option maxHeartbeats 400000 in
theorem slices_Index_int (v : Value) (l : List Int) (n : Int) (w : World) (h : RI w v l) :
 Calls Tryz.prog 201 #[v, .int .i64 n] w fun e w' => e = .returned (.int .i64 (idxOf (fun x => n == x) l)) ∧ w = w' := by
 obtain ⟨a, c, rfl, hlc, hcm, hre, hno, hat⟩ := h
 unfold maxLen at hcm
 replace hat := hid hat
 have hy := hid (fun k x hx hq ha => idxOf_hit (q := fun x : Int => n == x) (l := l) (k := k) (x := x) hx hq ha)
 have hn := hid (fun ha => idxOf_miss (q := fun x : Int => n == x) (l := l) ha)
 clear hno
 go_enter Tryz.func201, Tryz.ntmps201
 go_wp2_with fail
 go_loopw [5, 8] (fun _ i wr => ∃ k : Nat, k ≤ l.length ∧ i = .int .i64 k ∧ Hid (∀ j x, j < k → l[j]? = some x → (n == x) = false) ∧ wr = w) (fun _ i _ => l.length - (intOf i).toNat)
 case atStart => exact ⟨0, by omega, rfl, hid (fun j x hj => by omega), rfl⟩
 obtain ⟨k, hk, rfl, hall, rfl⟩ := hrel
 by_cases hlt : k < l.length
 · have hx : l[k]? = some l[k] := List.getElem?_eq_getElem hlt
   generalize l[k] = x at hx
   obtain ⟨bb, off, rfl, hbb, he⟩ := hat.out k _ hx
   obtain ⟨c0, -⟩ := he
   rw [Nat.mul_one] at c0
   have hy1 := hid (fun hq => hy.out k x hx hq hall.out)
   have hnx := hid (fun (hq : (n == x) = false) => upto_next_l (q := fun x : Int => n == x) hall.out hx hq)
   clear hx
   cases hq : (n == x) with
   | true =>
     have hr := hid (hy1.out hq)
     clear hall
     go_wp2_with fail
     go_ret
     exact ⟨ret_i hr.out.symm, rfl⟩
   | false =>
     have hr := hid (hnx.out hq)
     clear hall
     go_wp2_with fail
     go_roundw
     case rel => exact ⟨k + 1, by omega, by go_num, hr, trivial⟩
     case measure => simp [intOf]; omega
 obtain rfl : k = l.length := by omega
 have hr := hid (hn.out (fun j x hj => hall.out j x (List.getElem?_eq_some_iff.1 hj).1 hj))
 clear hall
 go_wp2_with fail
 go_ret
 exact ⟨ret_i hr.out.symm, rfl⟩
theorem idx_mem (n : Int) (l : List Int) : (0 ≤ idxOf (fun x => n == x) l) ↔ n ∈ l := by
 induction l with
 | nil => simp [idxOf]
 | cons x l ih =>
   rw [idxOf]
   by_cases h : (n == x) = true
   · rw [if_pos h]
     simp at h
     simp [h]
   rw [if_neg h]
   simp at h
   simp only [List.mem_cons, h, false_or]
   rw [← ih]
   split
   · rename_i h2; omega
   rename_i h2
   have hge : -1 ≤ idxOf (fun x => n == x) l := by
    clear ih h h2
    induction l with
    | nil => simp [idxOf]
    | cons y l ih =>
      rw [idxOf]
      split
      · omega
      split <;> omega
   omega
set_option maxRecDepth 100000 in
set_option maxHeartbeats 400000 in
theorem slices_Contains_int (v : Value) (l : List Int) (n : Int) (w : World) (h : RI w v l) :
 Calls Tryz.prog 136 #[v, .int .i64 n] w fun e w' => e = .returned (.bool (decide (n ∈ l))) ∧ w = w' := by
 have hi := slices_Index_int v l n w h
 have hm := idx_mem n l
 have hd : decide (n ∈ l) = decide (0 ≤ idxOf (fun x => n == x) l) := by simp [hm]
 rw [hd]
 clear hd hm
 generalize idxOf (fun x => n == x) l = r at *
 replace hi := hid hi
 go_enter Tryz.func136, Tryz.ntmps136
 go_wp2_with fail
 ((with_reducible refine hi.out.mono ?_); rintro e w1 ⟨rfl, rfl⟩)
 go_wp2_with fail
 go_ret
 exact ⟨rfl, rfl⟩
set_option maxRecDepth 100000 in
set_option maxHeartbeats 400000 in
theorem flight_crew (x : Flight) (dv : Value) (w : World) (h : RI w dv x.waiters) :
 Calls Tryz.prog 134 #[.agg #[.string x.key, .int .i64 x.leader, dv]] w fun e w' => ∃ v', e = .returned v' ∧ OS 3 1 cI w' w.heap.size v' (x.leader :: x.waiters) ∧ Below w.heap.size w w' := by
 obtain ⟨i0, hi, hz0, hz1, hz2⟩ := info_parts info_int
 have hR := hid h
 obtain ⟨a, c, rfl, hlc, hcm, hre, -⟩ := h
 unfold maxLen at hcm
 go_enter Tryz.func134, Tryz.ntmps134
 go_wp2_with (at_builtin; go_must (refine wpL_append flat_i rfl (.tmp 5) (.tmp 7) 43 rfl 3 i0 (.int .i64 0) Tryz.underlying43 hi hz0 hz1 hz2 rfl w.heap.size _ [x.leader] rfl (os_oneI _ _ _ _ (by simp) (b_alloc (Below.refl _ w) _).size) _ x.waiters rfl (hR.out.mono EI.stable (b_alloc (b_alloc (Below.refl _ _) _) _)) ?c1 ?c2 ?c3 ?_))
 case c1 => simp; omega
 case c2 => simp [maxLen]; omega
 case c3 => simp; omega
 intro v' w1 hown hg
 have hb := b_grown (b_alloc (b_alloc (Below.refl _ w) (Obj.cells #[.string x.key, .int .i64 x.leader, .slice a x.waiters.length c] 138)) (Obj.cells #[.int .i64 x.leader] 3)) hg (fun k hk => by simp [Value.ownBlock] at hk; omega)
 replace hown := hid hown
 replace hb := hid hb
 clear hg
 go_wp2_with fail
 go_ret
 exact ⟨_, rfl, hown.out, hb.out⟩
theorem ri_wf {w : World} {v : Value} {l : List Int} (h : RI w v l) : ∀ n ∈ l, (Lit.int .i64 n).wf = true := by
 intro n hn
 obtain ⟨i, hi⟩ := List.getElem?_of_mem hn
 obtain ⟨_, _, _, _, _, _, _, hat⟩ := h
 obtain ⟨_, _, _, _, he⟩ := hat i n hi
 exact he.2
theorem reads_i {e : TypeId} {w : World} {B : Nat} {v : Value} {l : List Int} (h : OS e 1 cI w B v l) (hb : l.length * 8 ≤ 140737488351232) (ho : ∀ n ∈ l, (Lit.int .i64 n).wf = true) : RI w v l :=
 OS.reads (cells := cI) (fun _ => rfl) (by decide) (fun b o n hn hc => ⟨hc 0 (by omega), ho n hn⟩) h hb
theorem ri_at {w : World} {a : Option Addr} {n c : Nat} {l : List Int} (h : RI w (.slice a n c) l) {j : Nat} {x : Int} (hj : l[j]? = some x) : ∃ b off, a = some ⟨b, off, none⟩ ∧ b < w.heap.size ∧ EI w b (off + j * 1) x := by
 obtain ⟨_, _, hv, _, _, _, _, hat⟩ := h
 simp only [Value.slice.injEq] at hv
 obtain ⟨rfl, -, -⟩ := hv
 exact hat j x hj
theorem take_findE (s : ByteArray) (l : List Flight) (k : Nat) (hk : k ≤ l.length) : findE (fun x : Flight => x.key) s (l.take k) = if atKey (fun x : Flight => x.key) s l < k then 0 else 5 := by
 unfold findE
 rw [atKey_take _ _ _ _ hk, List.length_take, Nat.min_eq_left hk]
 by_cases h : atKey (fun x : Flight => x.key) s l < k
 · rw [if_pos h, if_neg (by omega), if_pos h]
 rw [if_neg h, if_pos rfl, if_neg h]
set_option maxRecDepth 100000 in
set_option maxHeartbeats 4000000 in
theorem flight_Check (v : Value) (l : List Flight) (w : World) (h : RF w v l) :
 Calls Tryz.prog 70 #[v] w fun e w' => e = .returned (.int .i64 (flightsFault l)) ∧ Below w.heap.size w w' := by
 have hR := hid h
 obtain ⟨a, c, rfl, hlc, hcm, hre, hno, hat⟩ := h
 unfold maxLen at hcm
 clear hno
 replace hat := hid hat
 by_cases h6 : 6 < l.length
 · have hr := hid (flights_long h6)
   go_enter Tryz.func70, Tryz.ntmps70
   go_wp2_with fail
   go_ret
   exact ⟨ret_i hr.out.symm, Below.refl _ _⟩
 have hr := hid (flights_short h6)
 generalize flightsFault l = z at *
 go_enter Tryz.func70, Tryz.ntmps70
 go_wp2_with fail
 go_loopw [3, 4, 5, 6, 7, 8, 9, 10, 16] (fun _ _ _ _ _ _ _ _ i wr => ∃ (k : Nat), k ≤ l.length ∧ i = .int .i64 (k : Int) ∧ Hid (z = flightsFrom l k (l.drop k)) ∧ Hid (Below w.heap.size w wr)) (fun _ _ _ _ _ _ _ _ i _ => l.length - (intOf i).toNat)
 case atStart => exact ⟨0, by omega, rfl, hr, hid (Below.refl _ _)⟩
 obtain ⟨k, hk, rfl, hz, hb⟩ := hrel
 by_cases hlt : k < l.length
 · have hx : l[k]? = some l[k] := List.getElem?_eq_getElem hlt
   generalize l[k] = x at hx
   obtain ⟨bb, off, rfl, hbb, he⟩ := hat.out k _ hx
   obtain ⟨dv, c0, c1, c2, rdv, s0, wf⟩ := EFlight.stable _ _ _ _ _ hb.out hbb he
   have hbw : bb < wr.heap.size := Nat.lt_of_lt_of_le hbb hb.out.size
   have hstep := hid (fun h0 => flights_step hz.out hx h0)
   have hstop := hid (fun (n : Int) (h0 : flightFault l k x = n) (hn : n ≠ 0) => flights_stop hz.out hx h0 hn)
   have hfe := take_findE x.key l k (by omega)
   have hf1 := hid (fun hh => fl_hex (l := l) (k := k) (x := x) hh)
   have hf2 := hid (fun hh h2 => fl_twice (l := l) (k := k) (x := x) hh h2)
   have hf3 := hid (fun hh h2 h3 => fl_size (l := l) (k := k) (x := x) hh h2 h3)
   have hf4 := hid (fun hh h2 h3 => fl_crew (l := l) (k := k) (x := x) hh h2 h3)
   have hwl := ri_wf rdv
   obtain ⟨da, dc, rfl, -⟩ := id rdv
   replace rdv := hid rdv
   replace hwl := hid hwl
   have hup := hid (RS.upto hR.out k (by omega))
   clear he hx hz hr
   have hc := hid (fun w => hex_Check_any x.key w s0)
   have hba := hid (b_alloc (Below.refl _ wr) (Obj.cells #[.string x.key, .int .i64 x.leader, .slice da x.waiters.length dc] 138))
   have hq1 := hid (heap_alloc_new wr (Obj.cells #[.string x.key, .int .i64 x.leader, .slice da x.waiters.length dc] 138))
   have hsz1 : wr.heap.size < (wr.alloc (Obj.cells #[.string x.key, .int .i64 x.leader, .slice da x.waiters.length dc] 138)).heap.size := by simp
   by_cases hh : hexFault x.key = 0
   · rw [hh] at hc
     have hh' := hid hh
     clear hf1
     go_wp2_with fail
     ((with_reducible refine (hc.out _).mono ?_); rintro e w1 ⟨rfl, b1⟩)
     have hq2 := (b1.block wr.heap.size hsz1).trans hq1.out
     have hb2 := b_call hba.out b1
     obtain ⟨x0, x1, x2, f0, f1, f2⟩ := box3f hq2
     have hsz2 : wr.heap.size < w1.heap.size := (Array.getElem?_eq_some_iff.1 hq2).1
     replace hq2 := hid hq2
     replace hb2 := hid hb2
     clear b1 hq1 hba hsz1 hh
     have g1 : k ≤ c := by omega
     have g2 : k ≤ l.length := by omega
     have g3 : (0 : Int) ≤ (k : Int) := by omega
     have g4 : (k : Int) ≤ (c : Int) := by omega
     go_wp2_with fail
     have hFd := hid (flight_Find _ (l.take k) x.key w1.drew ((hup.out.mono EFlight.stable (hb.out.trans (hb2.out.mono hb.out.size))).mono EFlight.stable (Below.refl _ w1).drew))
     rw [hfe] at hFd
     generalize findI (fun x : Flight => x.key) x.key (l.take k) = fi at *
     generalize hfv : (if atKey (fun x : Flight => x.key) x.key l < k then (0 : Int) else 5) = fe at *
     clear hfe x1 x2 f0 f1 f2
     replace hfv := hid hfv
     go_region_held3 (fun w' => w'.cell? ⟨wr.heap.size, 0, none⟩ = some (.string x.key)) (first | go_keep | exact hx3)
      ((first
        | ((with_reducible refine hFd.out.mono ?_)
           rintro e w3 ⟨rfl, b3⟩
           have hq3 := (b3.block wr.heap.size hsz2).trans hq2.out
           have hx3 : w3.cell? ⟨wr.heap.size, 0, none⟩ = some (.string x.key) := cell_of_row _ _ 0 _ _ _ hq3
           have hb3 := b_call hb2.out (b_call (Below.refl _ w1).drew b3))
        | fail))
     clear hx3
     obtain ⟨y0, y1, y2, f0, f1, f2⟩ := box3f hq3
     replace hq3 := hid hq3
     replace hb3 := hid hb3
     clear hq2 hb2 b3 x0 hFd
     have hbT := hid (hb.out.trans (hb3.out.mono hb.out.size))
     by_cases ht : atKey (fun x : Flight => x.key) x.key l < k
     · have h0 := hfv.out
       rw [if_pos ht] at h0
       subst h0
       have hz6 := hid (hstop.out 6 (hf2.out hh'.out ht) (by decide))
       clear hf2 hf3 hf4 hstep hstop ht hfv
       go_wp2_with fail
       go_ret
       exact ⟨ret_i hz6.out.symm, hbT.out⟩
     have h0 := hfv.out
     rw [if_neg ht] at h0
     subst h0
     clear hf2 hfv
     by_cases h5 : 5 < x.waiters.length
     · have hz1 := hid (hstop.out 1 (hf3.out hh'.out ht h5) (by decide))
       have t5 : decide (5 < (x.waiters.length : Int)) = true := by simp; omega
       clear hf3 hf4 hstep hstop ht h5
       go_wp2_with fail
       go_ret
       exact ⟨ret_i hz1.out.symm, hbT.out⟩
     have hcr := hid (hf4.out hh'.out ht h5)
     have t5 : decide (5 < (x.waiters.length : Int)) = false := by simp; omega
     have h5' : x.waiters.length ≤ 5 := by omega
     clear hf3 hf4 ht h5
     go_wp2_with fail
     ((with_reducible refine (flight_crew x _ w3 (rdv.out.mono EI.stable hb3.out)).mono ?_); rintro e w4 ⟨v4, rfl, o4, b4⟩)
     have hbU := hid (hbT.out.trans (b4.mono hbT.out.size))
     obtain ⟨a4, k4, rfl, hl4, hm4, -⟩ := id (OS.len_le o4)
     have hlen : (x.leader :: x.waiters).length = x.waiters.length + 1 := rfl
     have hwc : ∀ n ∈ x.leader :: x.waiters, (Lit.int .i64 n).wf = true := fun n hn => by
      rcases List.mem_cons.1 hn with rfl | hn
      · exact wf
      exact hwl.out n hn
     have r4 := reads_i o4 (by rw [hlen]; omega) hwc
     have hcl : (crewOf x).length ≤ 6 := by show x.waiters.length + 1 ≤ 6; omega
     have hcr0 : Hid (flightFault l k x = crewFault (crewOf x) 0 ((crewOf x).drop 0)) := hcr
     rw [show (x.leader :: x.waiters) = crewOf x from rfl] at r4 hl4 ⊢
     generalize crewOf x = cw at *
     generalize flightFault l k x = ff at *
     replace r4 := hid r4
     replace hlen := hid hlen
     replace hwc := hid hwc
     unfold maxLen at hm4
     clear hcr o4 b4 hb3 hq3 y0 y1 y2 f0 f1 f2
     go_wp2_with fail
     go_loopw [9, 10, 46] (fun _ _ i2 wr2 => ∃ (j : Nat), j ≤ cw.length ∧ i2 = .int .i64 (j : Int) ∧ Hid (ff = crewFault cw j (cw.drop j)) ∧ wr2 = w4) (fun _ _ i2 _ => cw.length - (intOf i2).toNat)
     case atStart => exact ⟨0, by omega, rfl, hcr0, rfl⟩
     obtain ⟨j, hj, rfl, hcz, rfl⟩ := hrel
     by_cases hlt2 : j < cw.length
     · have hn : cw[j]? = some cw[j] := List.getElem?_eq_getElem hlt2
       generalize cw[j] = n at hn
       obtain ⟨bq, oq, rfl, hbq, he4⟩ := ri_at r4.out hn
       obtain ⟨d0, -⟩ := he4
       rw [Nat.mul_one] at d0
       have hup4 := RS.upto r4.out j (by omega)
       have e1 : j ≤ cw.length := by omega
       have e2 : j ≤ k4 := by omega
       have hwho := fun w => flight_who n w
       have hcon := slices_Contains_int _ (cw.take j) n _ hup4
       have hcs := hid (fun h1 h2 => crew_step hcz.out hn h1 h2)
       have hcr1 := hid (fun h1 => crew_range hcz.out hn h1)
       have hct := hid (fun h1 h2 => crew_twice hcz.out hn h1 h2)
       clear hup4 hcz hn hbq
       by_cases hs : 1 ≤ n ∧ n ≤ 1000
       · have hsb : someB n = true := decide_eq_true hs
         rw [hsb] at hwho
         replace hwho := hid hwho
         clear hsb
         by_cases hm : n ∈ cw.take j
         · rw [decide_eq_true hm] at hcon
           have hz6 := hid (hstop.out 6 (hct.out hs hm) (by decide))
           replace hcon := hid hcon
           clear hcs hcr1 hct hm hs hstep hstop
           go_wp2_with fail
           ((with_reducible refine (hwho.out _).mono ?_); rintro e w5 ⟨rfl, rfl⟩)
           go_wp2_with fail
           ((with_reducible refine hcon.out.mono ?_); rintro e w5 ⟨rfl, rfl⟩)
           go_wp2_with fail
           go_ret
           exact ⟨ret_i hz6.out.symm, hbU.out⟩
         rw [decide_eq_false hm] at hcon
         have hn2 := hid (hcs.out hs hm)
         replace hcon := hid hcon
         clear hcs hcr1 hct hm hs
         go_wp2_with fail
         ((with_reducible refine (hwho.out _).mono ?_); rintro e w5 ⟨rfl, rfl⟩)
         go_wp2_with fail
         ((with_reducible refine hcon.out.mono ?_); rintro e w5 ⟨rfl, rfl⟩)
         go_wp2_with fail
         go_roundw
         case rel => exact ⟨j + 1, by omega, by go_num, hn2, trivial⟩
         case measure => simp [intOf]; omega
       have hsb : someB n = false := decide_eq_false hs
       rw [hsb] at hwho
       replace hwho := hid hwho
       have hz4 := hid (hstop.out 4 (hcr1.out hs) (by decide))
       clear hsb hcs hcr1 hct hs hstep hstop hcon
       go_wp2_with fail
       ((with_reducible refine (hwho.out _).mono ?_); rintro e w5 ⟨rfl, rfl⟩)
       go_wp2_with fail
       go_ret
       exact ⟨ret_i hz4.out.symm, hbU.out⟩
     obtain rfl : j = cw.length := by omega
     have hff := hid (hstep.out (crew_end hcz.out))
     clear hstep hstop hcz hcr0
     go_wp2_with fail
     go_roundw
     case rel => exact ⟨k + 1, by omega, by go_num, hff, hbU⟩
     case measure => simp [intOf]; omega
   have hz1 := hid (hstop.out _ (hf1.out hh) hh)
   have th : (hexFault x.key != 0) = true := by simp [hh]
   clear hf1 hf2 hf3 hf4 hstep hstop hfe
   generalize hexFault x.key = hv at *
   replace hh := hid hh
   go_wp2_with fail
   ((with_reducible refine (hc.out _).mono ?_); rintro e w1 ⟨rfl, b1⟩)
   have hbV := hid (b_call (b_alloc hb.out _) b1)
   clear b1
   go_wp2_with fail
   go_ret
   exact ⟨ret_i hz1.out.symm, hbV.out⟩
 obtain rfl : k = l.length := by omega
 have hr0 := hid (flights_end hz.out)
 go_wp2_with fail
 go_ret
 exact ⟨ret_i hr0.out.symm, hb.out⟩
theorem flightsFrom_fit {l : List Flight} : ∀ {r : List Flight} {k : Nat}, flightsFrom l k r = 0 → ∀ x ∈ r, x.waiters.length ≤ 5
 | [], _, _ => fun x hx => by cases hx
 | y :: r, k, h => fun x hx => by
   unfold flightsFrom at h
   by_cases h0 : flightFault l k y = 0
   · rw [if_pos h0] at h
     rcases List.mem_cons.1 hx with rfl | hx
     · unfold flightFault at h0
       split at h0
       · rename_i hh; exact absurd h0 hh
       split at h0
       · cases h0
       split at h0
       · cases h0
       omega
     exact flightsFrom_fit h x hx
   rw [if_neg h0] at h; exact absurd h h0
theorem flights_fit {l : List Flight} (h : flightsFault l = 0) : ∀ x ∈ l, x.waiters.length ≤ 5 := by
 unfold flightsFault at h
 split at h
 · cases h
 exact flightsFrom_fit h
def endE (z : Int) (s : ByteArray) (l : List Flight) : Int := if z ≠ 0 then z else match l[atKey (·.key) s l]? with | none => 5 | some _ => 0
def endL (z : Int) (s : ByteArray) (l : List Flight) : List Flight := if endE z s l = 0 then l.take (atKey (·.key) s l) ++ l.drop (atKey (·.key) s l + 1) else []
def endW (z : Int) (s : ByteArray) (l : List Flight) : List Int := if endE z s l = 0 then (match l[atKey (·.key) s l]? with | none => [] | some x => crewOf x) else []
theorem drop_F_len (i : Nat) (l : List Flight) (h : l.length * 48 ≤ 140737488351232) : (l.take i ++ l.drop (i + 1)).length * 48 ≤ 140737488351232 := by
 have : (l.take i ++ l.drop (i + 1)).length ≤ l.length := by rw [List.length_append, List.length_take, List.length_drop]; omega
 omega
theorem drop_F_mem (i : Nat) (l : List Flight) (Q : Flight → Prop) (h : ∀ x ∈ l, Q x) : ∀ x ∈ l.take i ++ l.drop (i + 1), Q x := by
 intro x hx
 rcases List.mem_append.1 hx with hx | hx
 · exact h x (List.mem_of_mem_take hx)
 exact h x (List.mem_of_mem_drop hx)
theorem OFlight.set {w : World} {B q o : Nat} {v u : Value} {l : List Flight} (h : OFlight w B v l) (hq : q < B) : OFlight (w.setCell ⟨q, o, none⟩ u) B v l := by
 obtain ⟨rs, h1, h2, h3⟩ := h
 exact ⟨rs, h1, h2.setOld hq, fun r hr => (h3 r hr).setOld hq⟩
theorem OFlight.after {w w' : World} {B : Nat} {v : Value} {l : List Flight} (h : OFlight w B v l) (hb : Below w.heap.size w w') : OFlight w' B v l := OX.below (CO.below hb) h hb
theorem OFlight.low {w : World} {B B' : Nat} {v : Value} {l : List Flight} (h : OFlight w B v l) (hB : B' ≤ B) : OFlight w B' v l := OX.mono (OX.to (fun _ _ h => OS.mono h hB) h) hB
def EndPost (z : Int) (s : ByteArray) (l : List Flight) (w : World) (e : Ending) (w' : World) : Prop :=
 ∃ v1 v2, e = .returned (.tuple #[v1, v2, .int .i64 (endE z s l)]) ∧ RF w' v1 (endL z s l) ∧ RI w' v2 (endW z s l) ∧ Below w.heap.size w w'
def EndPostO (z : Int) (s : ByteArray) (l : List Flight) (w : World) (e : Ending) (w' : World) : Prop :=
 ∃ v1 v2, e = .returned (.tuple #[v1, v2, .int .i64 (endE z s l)]) ∧ RF w' v1 (endL z s l) ∧ RI w' v2 (endW z s l) ∧ Below w.heap.size w w' ∧ OFlight w' w.heap.size v1 (endL z s l) ∧ OS 3 1 cI w' w.heap.size v2 (endW z s l)
theorem EndPostO.plain {z : Int} {s : ByteArray} {l : List Flight} {w w' : World} {e : Ending} (h : EndPostO z s l w e w') : EndPost z s l w e w' := by
 obtain ⟨v1, v2, h1, h2, h3, h4, -⟩ := h
 exact ⟨v1, v2, h1, h2, h3, h4⟩
theorem end_no {z n : Int} {s : ByteArray} {l : List Flight} {w w' : World} (h : endE z s l = n) (hn : n ≠ 0) (hb : Below w.heap.size w w') : EndPostO z s l w (.returned (.tuple #[.slice none 0 0, .slice none 0 0, .int .i64 n])) w' := by
 have e1 : endL z s l = [] := by unfold endL; rw [if_neg (by rw [h]; exact hn)]
 have e2 : endW z s l = [] := by unfold endW; rw [if_neg (by rw [h]; exact hn)]
 exact ⟨_, _, by rw [h], by rw [e1]; exact RS.nil, by rw [e2]; exact RS.nil, hb, by rw [e1]; exact OX.nil, by rw [e2]; exact OS.nil⟩
theorem end_ok {z : Int} {s : ByteArray} {l L : List Flight} {C : List Int} {w w' : World} {v1 v2 : Value} (h : endE z s l = 0) (hl : endL z s l = L) (hc : endW z s l = C) (hr : RF w' v1 L) (hr2 : RI w' v2 C) (hb : Below w.heap.size w w') (ho : OFlight w' w.heap.size v1 L) (ho2 : OS 3 1 cI w' w.heap.size v2 C) : EndPostO z s l w (.returned (.tuple #[v1, v2, .int .i64 0])) w' :=
 ⟨_, _, by rw [h], by rw [hl]; exact hr, by rw [hc]; exact hr2, hb, by rw [hl]; exact ho, by rw [hc]; exact ho2⟩
set_option maxRecDepth 100000 in
set_option maxHeartbeats 1000000 in
theorem flight_EndO (v : Value) (l : List Flight) (s : ByteArray) (w : World) (h : RF w v l) (z : Int) (hw : z = 0 → ∀ x ∈ l, x.waiters.length ≤ 5)
 (hch : ∀ w, RF w v l → Calls Tryz.prog 70 #[v] w fun e w' => e = .returned (.int .i64 z) ∧ Below w.heap.size w w') :
 Calls Tryz.prog 219 #[v, .string s] w (EndPostO z s l w) := by
 replace hch := hid hch
 have hR := hid h
 obtain ⟨a, c, rfl, hlc, hcm, hre, hno, hat⟩ := h
 unfold maxLen at hcm
 clear hno
 by_cases hz : z = 0
 · subst hz
   have hsh := hw rfl
   have hle := atKey_le (fun x : Flight => x.key) s l
   have hfi : findI (fun x : Flight => x.key) s l = if atKey (fun x : Flight => x.key) s l = l.length then 0 else (atKey (fun x : Flight => x.key) s l : Int) := rfl
   have hfe : findE (fun x : Flight => x.key) s l = if atKey (fun x : Flight => x.key) s l = l.length then 5 else 0 := rfl
   have hd0 := hid (show endE 0 s l = match l[atKey (fun x : Flight => x.key) s l]? with | none => 5 | some _ => 0 from rfl)
   have hdl := hid (fun h0 : endE 0 s l = 0 => show endL 0 s l = l.take (atKey (fun x : Flight => x.key) s l) ++ l.drop (atKey (fun x : Flight => x.key) s l + 1) from if_pos h0)
   have hdw := hid (fun h0 : endE 0 s l = 0 => show endW 0 s l = (match l[atKey (fun x : Flight => x.key) s l]? with | none => [] | some x => crewOf x) from if_pos h0)
   generalize atKey (fun x : Flight => x.key) s l = i at *
   by_cases hi : i = l.length
   · have hd : Hid (endE 0 s l = 5) := hid (by rw [hd0.out, List.getElem?_eq_none (by omega)])
     rw [if_pos hi] at hfi hfe
     replace hfi := hid hfi
     replace hfe := hid hfe
     replace hi := hid hi
     go_enter Tryz.func219, Tryz.ntmps219
     go_wp2_with fail
     ((with_reducible refine (hch.out _ hR.out).mono ?_); rintro e w1 ⟨rfl, b1⟩)
     go_wp2_with fail
     have hF := flight_Find _ l s w1 (hR.out.mono EFlight.stable b1)
     rw [hfi.out, hfe.out] at hF
     ((with_reducible refine hF.mono ?_); rintro e w2 ⟨rfl, b2⟩)
     go_wp2_with fail
     go_ret3
     exact end_no hd.out (by decide) (b_call b1 b2)
   have hx : l[i]? = some l[i] := List.getElem?_eq_getElem (by omega)
   generalize l[i] = x at hx
   obtain ⟨bb, off, rfl, hbb, he⟩ := hat _ _ hx
   rw [if_neg hi] at hfi hfe
   have hilt : i < l.length := by omega
   have hd : Hid (endE 0 s l = 0) := hid (by rw [hd0.out, hx])
   have hdw1 : Hid (endW 0 s l = crewOf x) := hid (by rw [hdw.out hd.out, hx])
   replace hfi := hid hfi
   replace hfe := hid hfe
   have hfit := hid (fit_F hR.out)
   have hx5 := hsh x (List.mem_of_getElem? hx)
   clear hx hat hd0 hdw hsh
   go_enter Tryz.func219, Tryz.ntmps219
   go_wp2_with fail
   ((with_reducible refine (hch.out _ hR.out).mono ?_); rintro e w1 ⟨rfl, b1⟩)
   go_wp2_with fail
   have hF := flight_Find _ l s w1 (hR.out.mono EFlight.stable b1)
   rw [hfi.out, hfe.out] at hF
   ((with_reducible refine hF.mono ?_); rintro e w2 ⟨rfl, b2⟩)
   have hb2 := hid (b_call b1 b2)
   have he2 := EFlight.stable _ _ _ _ _ hb2.out hbb he
   have hbb2 : bb < w2.heap.size := Nat.lt_of_lt_of_le hbb hb2.out.size
   obtain ⟨dv, c0, c1, c2, rdv, s0, wf⟩ := id he2
   have hwl := hid (ri_wf rdv)
   obtain ⟨da, dc, rfl, -⟩ := id rdv
   replace rdv := hid rdv
   replace he2 := hid he2
   clear b1 b2 hF he
   have hi0 : (0 : Int) ≤ (i : Int) := by omega
   have hi1 : (i : Int) < (l.length : Int) := by omega
   have g1 : IntKind.i64.wrap ((i : Int) + 1) = (i : Int) + 1 := IntWalk.i64_in _ (by omega)
   have hR2 := hid (hR.out.mono EFlight.stable hb2.out)
   have hC3 := hid (flight_Copy _ l w2.drew (hR2.out.mono EFlight.stable (Below.refl _ w2).drew))
   have hS : w2.cell? ⟨bb, off + i * 3, none⟩ = some (.string x.key) ∧ w2.cell? ⟨bb, off + i * 3 + 1, none⟩ = some (.int .i64 x.leader) ∧ w2.cell? ⟨bb, off + i * 3 + 2, none⟩ = some (.slice da x.waiters.length dc) := ⟨c0, c1, c2⟩
   go_wp2_with fail
   clear hch
   go_region_held3 (fun w' => w'.cell? ⟨bb, off + i * 3, none⟩ = some (.string x.key) ∧ w'.cell? ⟨bb, off + i * 3 + 1, none⟩ = some (.int .i64 x.leader) ∧ w'.cell? ⟨bb, off + i * 3 + 2, none⟩ = some (.slice da x.waiters.length dc))
    (first | go_keep | exact hS5 | exact hS4 | exact hS3 | exact hS | fail)
    ((first
      | ((with_reducible refine hC3.out.mono ?_)
         rintro e w3 ⟨rfl, o3', b3⟩
         have o3 : OFlight w3 w2.heap.size (.slice (some ⟨w2.heap.size, 0, none⟩) l.length l.length) l := o3'
         have hs3 : w2.heap.size ≤ w3.heap.size := b3.size
         have hb3 := hid (b_call (Below.refl _ w2).drew b3)
         have hS3 : w3.cell? ⟨bb, off + i * 3, none⟩ = some (.string x.key) ∧ w3.cell? ⟨bb, off + i * 3 + 1, none⟩ = some (.int .i64 x.leader) ∧ w3.cell? ⟨bb, off + i * 3 + 2, none⟩ = some (.slice da x.waiters.length dc) := ⟨cell_stays hb3.out hbb2 c0, cell_stays hb3.out hbb2 c1, cell_stays hb3.out hbb2 c2⟩)
      | ((with_reducible refine (slices_Delete_F l i w2.heap.size w3 o3 hilt hs3 (by omega)).mono ?_)
         rintro e w4 ⟨cc, rfl, o4, b4⟩
         have hb4 := hid (hb3.out.trans b4)
         have hS4 : w4.cell? ⟨bb, off + i * 3, none⟩ = some (.string x.key) ∧ w4.cell? ⟨bb, off + i * 3 + 1, none⟩ = some (.int .i64 x.leader) ∧ w4.cell? ⟨bb, off + i * 3 + 2, none⟩ = some (.slice da x.waiters.length dc) := ⟨cell_stays hb4.out hbb2 c0, cell_stays hb4.out hbb2 c1, cell_stays hb4.out hbb2 c2⟩)
      | ((with_reducible refine (flight_crew x _ w4 (rdv.out.mono EI.stable hb4.out)).mono ?_)
         rintro e w5 ⟨v5, rfl, o5, b5⟩
         have hb5 := hid (b_call hb4.out b5)
         have hS5 : w5.cell? ⟨bb, off + i * 3, none⟩ = some (.string x.key) ∧ w5.cell? ⟨bb, off + i * 3 + 1, none⟩ = some (.int .i64 x.leader) ∧ w5.cell? ⟨bb, off + i * 3 + 2, none⟩ = some (.slice da x.waiters.length dc) := ⟨cell_stays hb5.out hbb2 c0, cell_stays hb5.out hbb2 c1, cell_stays hb5.out hbb2 c2⟩)
      | fail))
   have r4 := hid ((o4.toR (drop_F_len _ _ hre) (drop_F_mem _ _ _ hfit.out)).mono EFlight.stable b5)
   have r5 : Hid (RI w5 v5 (crewOf x)) := hid (reads_i o5 (by show (x.waiters.length + 1) * 8 ≤ _; omega) (fun n hn => by
    rcases List.mem_cons.1 hn with rfl | hn
    · exact wf
    · exact hwl.out n hn))
   have hb6 := hid (hb2.out.trans (hb5.out.mono hb2.out.size))
   have o4k := hid ((OFlight.after o4 b5).low (show w.heap.size ≤ w2.heap.size from hb2.out.size))
   have o5k := hid (OS.mono o5 (show w.heap.size ≤ w4.heap.size from Nat.le_trans hb2.out.size hb4.out.size))
   clear o3 o3' o4 o5 b3 b4 b5 hS hS3 hS4 hS5 c0 c1 c2
   go_wp2_with fail
   go_ret3
   exact end_ok hd.out (hdl.out hd.out) hdw1.out r4.out r5.out hb6.out o4k.out o5k.out
 have ht : (z != 0) = true := by simp [hz]
 have hd : Hid (endE z s l = z) := hid (if_pos hz)
 replace hz := hid hz
 go_enter Tryz.func219, Tryz.ntmps219
 go_wp2_with fail
 ((with_reducible refine (hch.out _ hR.out).mono ?_); rintro e w1 ⟨rfl, b1⟩)
 go_wp2_with fail
 go_ret3
 exact end_no hd.out hz.out b1
end Go.Proofs.YtpkpgehiplhkpaaGreat

namespace Go.Proofs.YtpkpgehiplhkpaaGreat
open Go.RowKit
def joinE (z zk n : Int) (s : ByteArray) (l : List Flight) : Int := if z ≠ 0 then z else if zk ≠ 0 then zk else if ¬ (1 ≤ n ∧ n ≤ 1000) then 4 else match l[atKey (·.key) s l]? with
 | none => if l.length = 6 then 7 else 0
 | some x => if n ∈ crewOf x then 6 else if x.waiters.length = 5 then 7 else 0
def joinL (z zk n : Int) (s : ByteArray) (l : List Flight) : List Flight := if joinE z zk n s l = 0 then (match l[atKey (·.key) s l]? with | none => l ++ [⟨s, n, []⟩] | some x => l.set (atKey (·.key) s l) { x with waiters := x.waiters ++ [n] }) else []
def joinB (z zk n : Int) (s : ByteArray) (l : List Flight) : Bool := if joinE z zk n s l = 0 then (match l[atKey (·.key) s l]? with | none => true | some _ => false) else false
end Go.Proofs.YtpkpgehiplhkpaaGreat
