/-
  flight.Check: what it answers.
-/
import Derived.Test.YtaojfpgbpakmpaaFlt
import Derived.Test.YtaojfpgbpakmpaaCr
import Derived.Test.YtaojfpgbpakmpaaFtF
import Derived.Deep.RegionHeld3
import Derived.StillTactics
import Derived.OwnWalk
namespace Go.Proofs.Ytaojfpgbpakmpaa
open Go.RowKit

theorem ri_wf {w : World} {v : Value} {l : List Int} (h : RI w v l) : ∀ n ∈ l, (Lit.int .i64 n).wf = true := by
  intro n hn
  obtain ⟨i, hi⟩ := List.getElem?_of_mem hn
  obtain ⟨_, _, _, _, _, _, _, hat⟩ := h
  obtain ⟨_, _, _, _, he⟩ := hat i n hi
  exact he.2
theorem reads_i {e : TypeId} {w : World} {B : Nat} {v : Value} {l : List Int} (h : OS e 1 cI w B v l) (hb : l.length * 8 ≤ 140737488351232) (ho : ∀ n ∈ l, (Lit.int .i64 n).wf = true) : RI w v l :=
  OS.reads (cells := cI) (fun _ => rfl) (by decide) (fun b o n hn hc => ⟨hc 0 (by omega), ho n hn⟩) h hb
theorem ri_at {w : World} {a : Option Addr} {n c : Nat} {l : List Int} (h : RI w (.slice a n c) l) {j : Nat} {x : Int} (hj : l[j]? = some x) : ∃ b off, a = some ⟨b, off, none⟩ ∧ b < w.heap.size ∧ EI w b (off + j * 1) x := by
  obtain ⟨_, _, hv, _, _, _, _, hat⟩ := h
  simp only [Value.slice.injEq] at hv
  obtain ⟨rfl, -, -⟩ := hv
  exact hat j x hj
theorem take_findE (s : ByteArray) (l : List Flight) (k : Nat) (hk : k ≤ l.length) : findE (fun x : Flight => x.key) s (l.take k) = if atKey (fun x : Flight => x.key) s l < k then 0 else 5 := by
  unfold findE
  rw [atKey_take _ _ _ _ hk, List.length_take, Nat.min_eq_left hk]
  by_cases h : atKey (fun x : Flight => x.key) s l < k
  · rw [if_pos h, if_neg (by omega), if_pos h]
  · rw [if_neg h, if_pos rfl, if_neg h]

set_option maxRecDepth 100000 in
set_option maxHeartbeats 4000000 in
theorem flight_Check (v : Value) (l : List Flight) (w : World) (h : RF w v l) :
    Calls Try.prog 23 #[v] w fun e w' => e = .returned (.int .i64 (flightsFault l)) ∧ Below w.heap.size w w' := by
  have hR := hid h
  obtain ⟨a, c, rfl, hlc, hcm, hre, hno, hat⟩ := h
  unfold maxLen at hcm
  clear hno
  replace hat := hid hat
  by_cases h6 : 6 < l.length
  · have hr := hid (flights_long h6)
    go_enter Try.func23, Try.ntmps23
    go_wp2_with fail
    go_ret
    exact ⟨ret_i hr.out.symm, Below.refl _ _⟩
  · have hr := hid (flights_short h6)
    generalize flightsFault l = z at *
    go_enter Try.func23, Try.ntmps23
    go_wp2_with fail
    go_loopw [3, 4, 5, 6, 7, 8, 9, 10, 16] (fun _ _ _ _ _ _ _ _ i wr => ∃ (k : Nat), k ≤ l.length ∧ i = .int .i64 (k : Int) ∧ Hid (z = flightsFrom l k (l.drop k)) ∧ Hid (Below w.heap.size w wr)) (fun _ _ _ _ _ _ _ _ i _ => l.length - (intOf i).toNat)
    case atStart => exact ⟨0, by omega, rfl, hr, hid (Below.refl _ _)⟩
    case round =>
      obtain ⟨k, hk, rfl, hz, hb⟩ := hrel
      by_cases hlt : k < l.length
      · have hx : l[k]? = some l[k] := List.getElem?_eq_getElem hlt
        generalize l[k] = x at hx
        obtain ⟨bb, off, rfl, hbb, he⟩ := hat.out k _ hx
        obtain ⟨dv, c0, c1, c2, rdv, s0, wf⟩ := EFlight.stable _ _ _ _ _ hb.out hbb he
        have hbw : bb < wr.heap.size := Nat.lt_of_lt_of_le hbb hb.out.size
        have hstep := hid (fun h0 => flights_step hz.out hx h0)
        have hstop := hid (fun (n : Int) (h0 : flightFault l k x = n) (hn : n ≠ 0) => flights_stop hz.out hx h0 hn)
        have hfe := take_findE x.key l k (by omega)
        have hf1 := hid (fun hh => fl_hex (l := l) (k := k) (x := x) hh)
        have hf2 := hid (fun hh h2 => fl_twice (l := l) (k := k) (x := x) hh h2)
        have hf3 := hid (fun hh h2 h3 => fl_size (l := l) (k := k) (x := x) hh h2 h3)
        have hf4 := hid (fun hh h2 h3 => fl_crew (l := l) (k := k) (x := x) hh h2 h3)
        have hwl := ri_wf rdv
        obtain ⟨da, dc, rfl, -⟩ := id rdv
        replace rdv := hid rdv
        replace hwl := hid hwl
        have hup := hid (RS.upto hR.out k (by omega))
        clear he hx hz hr
        have hc := hid (fun w => hex_Check_any x.key w s0)
        have hba := hid (b_alloc (Below.refl _ wr) (Obj.cells #[.string x.key, .int .i64 x.leader, .slice da x.waiters.length dc] 115))
        have hq1 := hid (heap_alloc_new wr (Obj.cells #[.string x.key, .int .i64 x.leader, .slice da x.waiters.length dc] 115))
        have hsz1 : wr.heap.size < (wr.alloc (Obj.cells #[.string x.key, .int .i64 x.leader, .slice da x.waiters.length dc] 115)).heap.size := by simp
        by_cases hh : hexFault x.key = 0
        · rw [hh] at hc
          have hh' := hid hh
          clear hf1
          go_wp2_with fail
          ((with_reducible refine (hc.out _).mono ?_); rintro e w1 ⟨rfl, b1⟩)
          have hq2 := (b1.block wr.heap.size hsz1).trans hq1.out
          have hb2 := b_call hba.out b1
          obtain ⟨x0, x1, x2, f0, f1, f2⟩ := box3f hq2
          have hsz2 : wr.heap.size < w1.heap.size := (Array.getElem?_eq_some_iff.1 hq2).1
          replace hq2 := hid hq2
          replace hb2 := hid hb2
          clear b1 hq1 hba hsz1 hh
          have g1 : k ≤ c := by omega
          have g2 : k ≤ l.length := by omega
          have g3 : (0 : Int) ≤ (k : Int) := by omega
          have g4 : (k : Int) ≤ (c : Int) := by omega
          go_wp2_with fail
          have hFd := hid (flight_Find _ (l.take k) x.key w1.drew ((hup.out.mono EFlight.stable (hb.out.trans (hb2.out.mono hb.out.size))).mono EFlight.stable (Below.refl _ w1).drew))
          rw [hfe] at hFd
          generalize findI (fun x : Flight => x.key) x.key (l.take k) = fi at *
          generalize hfv : (if atKey (fun x : Flight => x.key) x.key l < k then (0 : Int) else 5) = fe at *
          clear hfe x1 x2 f0 f1 f2
          replace hfv := hid hfv
          go_region_held3 (fun w' => w'.cell? ⟨wr.heap.size, 0, none⟩ = some (.string x.key)) (first | go_keep | exact hx3)
            ((first
              | ((with_reducible refine hFd.out.mono ?_)
                 rintro e w3 ⟨rfl, b3⟩
                 have hq3 := (b3.block wr.heap.size hsz2).trans hq2.out
                 have hx3 : w3.cell? ⟨wr.heap.size, 0, none⟩ = some (.string x.key) := cell_of_row _ _ 0 _ _ _ hq3
                 have hb3 := b_call hb2.out (b_call (Below.refl _ w1).drew b3))
              | fail))
          clear hx3
          obtain ⟨y0, y1, y2, f0, f1, f2⟩ := box3f hq3
          replace hq3 := hid hq3
          replace hb3 := hid hb3
          clear hq2 hb2 b3 x0 hFd
          have hbT := hid (hb.out.trans (hb3.out.mono hb.out.size))
          by_cases ht : atKey (fun x : Flight => x.key) x.key l < k
          · have h0 := hfv.out
            rw [if_pos ht] at h0
            subst h0
            have hz6 := hid (hstop.out 6 (hf2.out hh'.out ht) (by decide))
            clear hf2 hf3 hf4 hstep hstop ht hfv
            go_wp2_with fail
            go_ret
            exact ⟨ret_i hz6.out.symm, hbT.out⟩
          · have h0 := hfv.out
            rw [if_neg ht] at h0
            subst h0
            clear hf2 hfv
            by_cases h5 : 5 < x.waiters.length
            · have hz1 := hid (hstop.out 1 (hf3.out hh'.out ht h5) (by decide))
              have t5 : decide (5 < (x.waiters.length : Int)) = true := by simp; omega
              clear hf3 hf4 hstep hstop ht h5
              go_wp2_with fail
              go_ret
              exact ⟨ret_i hz1.out.symm, hbT.out⟩
            · have hcr := hid (hf4.out hh'.out ht h5)
              have t5 : decide (5 < (x.waiters.length : Int)) = false := by simp; omega
              have h5' : x.waiters.length ≤ 5 := by omega
              clear hf3 hf4 ht h5
              go_wp2_with fail
              ((with_reducible refine (flight_crew x _ w3 (rdv.out.mono EI.stable hb3.out)).mono ?_); rintro e w4 ⟨v4, rfl, o4, b4⟩)
              have hbU := hid (hbT.out.trans (b4.mono hbT.out.size))
              obtain ⟨a4, k4, rfl, hl4, hm4, -⟩ := id (OS.len_le o4)
              have hlen : (x.leader :: x.waiters).length = x.waiters.length + 1 := rfl
              have hwc : ∀ n ∈ x.leader :: x.waiters, (Lit.int .i64 n).wf = true := fun n hn => by
                rcases List.mem_cons.1 hn with rfl | hn
                · exact wf
                · exact hwl.out n hn
              have r4 := reads_i o4 (by rw [hlen]; omega) hwc
              have hcl : (crewOf x).length ≤ 6 := by show x.waiters.length + 1 ≤ 6; omega
              have hcr0 : Hid (flightFault l k x = crewFault (crewOf x) 0 ((crewOf x).drop 0)) := hcr
              rw [show (x.leader :: x.waiters) = crewOf x from rfl] at r4 hl4 ⊢
              generalize crewOf x = cw at *
              generalize flightFault l k x = ff at *
              replace r4 := hid r4
              replace hlen := hid hlen
              replace hwc := hid hwc
              unfold maxLen at hm4
              clear hcr o4 b4 hb3 hq3 y0 y1 y2 f0 f1 f2
              go_wp2_with fail
              go_loopw [9, 10, 46] (fun _ _ i2 wr2 => ∃ (j : Nat), j ≤ cw.length ∧ i2 = .int .i64 (j : Int) ∧ Hid (ff = crewFault cw j (cw.drop j)) ∧ wr2 = w4) (fun _ _ i2 _ => cw.length - (intOf i2).toNat)
              case atStart => exact ⟨0, by omega, rfl, hcr0, rfl⟩
              case round =>
                obtain ⟨j, hj, rfl, hcz, rfl⟩ := hrel
                by_cases hlt2 : j < cw.length
                · have hn : cw[j]? = some cw[j] := List.getElem?_eq_getElem hlt2
                  generalize cw[j] = n at hn
                  obtain ⟨bq, oq, rfl, hbq, he4⟩ := ri_at r4.out hn
                  obtain ⟨d0, -⟩ := he4
                  rw [Nat.mul_one] at d0
                  have hup4 := RS.upto r4.out j (by omega)
                  have e1 : j ≤ cw.length := by omega
                  have e2 : j ≤ k4 := by omega
                  have hwho := fun w => flight_who n w
                  have hcon := slices_Contains_int _ (cw.take j) n _ hup4
                  have hcs := hid (fun h1 h2 => crew_step hcz.out hn h1 h2)
                  have hcr1 := hid (fun h1 => crew_range hcz.out hn h1)
                  have hct := hid (fun h1 h2 => crew_twice hcz.out hn h1 h2)
                  clear hup4 hcz hn hbq
                  by_cases hs : 1 ≤ n ∧ n ≤ 1000
                  · have hsb : someB n = true := decide_eq_true hs
                    rw [hsb] at hwho
                    replace hwho := hid hwho
                    clear hsb
                    by_cases hm : n ∈ cw.take j
                    · rw [decide_eq_true hm] at hcon
                      have hz6 := hid (hstop.out 6 (hct.out hs hm) (by decide))
                      replace hcon := hid hcon
                      clear hcs hcr1 hct hm hs hstep hstop
                      go_wp2_with fail
                      ((with_reducible refine (hwho.out _).mono ?_); rintro e w5 ⟨rfl, rfl⟩)
                      go_wp2_with fail
                      ((with_reducible refine hcon.out.mono ?_); rintro e w5 ⟨rfl, rfl⟩)
                      go_wp2_with fail
                      go_ret
                      exact ⟨ret_i hz6.out.symm, hbU.out⟩
                    · rw [decide_eq_false hm] at hcon
                      have hn2 := hid (hcs.out hs hm)
                      replace hcon := hid hcon
                      clear hcs hcr1 hct hm hs
                      go_wp2_with fail
                      ((with_reducible refine (hwho.out _).mono ?_); rintro e w5 ⟨rfl, rfl⟩)
                      go_wp2_with fail
                      ((with_reducible refine hcon.out.mono ?_); rintro e w5 ⟨rfl, rfl⟩)
                      go_wp2_with fail
                      go_roundw
                      case rel => exact ⟨j + 1, by omega, by go_num, hn2, trivial⟩
                      case measure => simp [intOf]; omega
                  · have hsb : someB n = false := decide_eq_false hs
                    rw [hsb] at hwho
                    replace hwho := hid hwho
                    have hz4 := hid (hstop.out 4 (hcr1.out hs) (by decide))
                    clear hsb hcs hcr1 hct hs hstep hstop hcon
                    go_wp2_with fail
                    ((with_reducible refine (hwho.out _).mono ?_); rintro e w5 ⟨rfl, rfl⟩)
                    go_wp2_with fail
                    go_ret
                    exact ⟨ret_i hz4.out.symm, hbU.out⟩
                · obtain rfl : j = cw.length := by omega
                  have hff := hid (hstep.out (crew_end hcz.out))
                  clear hstep hstop hcz hcr0
                  go_wp2_with fail
                  go_roundw
                  case rel => exact ⟨k + 1, by omega, by go_num, hff, hbU⟩
                  case measure => simp [intOf]; omega
        · have hz1 := hid (hstop.out _ (hf1.out hh) hh)
          have th : (hexFault x.key != 0) = true := by simp [hh]
          clear hf1 hf2 hf3 hf4 hstep hstop hfe
          generalize hexFault x.key = hv at *
          replace hh := hid hh
          go_wp2_with fail
          ((with_reducible refine (hc.out _).mono ?_); rintro e w1 ⟨rfl, b1⟩)
          have hbV := hid (b_call (b_alloc hb.out _) b1)
          clear b1
          go_wp2_with fail
          go_ret
          exact ⟨ret_i hz1.out.symm, hbV.out⟩
      · obtain rfl : k = l.length := by omega
        have hr0 := hid (flights_end hz.out)
        go_wp2_with fail
        go_ret
        exact ⟨ret_i hr0.out.symm, hb.out⟩
end Go.Proofs.Ytaojfpgbpakmpaa
