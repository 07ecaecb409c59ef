/-
  The reference's FlightsFault: what it answers. It keeps a map of those whom it has met.
-/
import Derived.Test.YtaojfpgbpakmpaaFltC
namespace Go.Proofs.Ytaojfpgbpakmpaa
open Go.RowKit
open Go.Maps (Keyed)

theorem map_key : Keyed Try.prog 3 := Maps.int_keyed Try.underlying3
theorem zero_bool (w : World) : (zeroValue 4).run Try.prog w = .ok (.bool false) w := by kernel_rfl
theorem keyed_int {n : Int} (h : (Lit.int .i64 n).wf = true) : keyOf Try.prog 3 (.int .i64 n) = some (.int .i64 n) := Maps.keyOf_int_mk Try.underlying3 h
/-- Block b holds a map of those of a list. -/
def Met (w : World) (b n : Nat) (l : List Int) : Prop := ∃ D : DataW Unit, w.ownsMap Try.prog 3 (plainElem Try.prog 4) b n D ∧ SeenBy D l

set_option maxRecDepth 100000 in
set_option maxHeartbeats 4000000 in
theorem ref_FlightsFault (v : Value) (l : List Flight) (w : World) (h : RF w v l) :
    Calls Try.prog 26 #[v] w fun e w' => e = .returned (.int .i64 (flightsFault l)) ∧ Below w.heap.size w w' := by
  obtain ⟨i0, ii0, hz0, hz1, hz2⟩ := info_parts info_int
  have hR := hid h
  obtain ⟨a, c, rfl, hlc, hcm, hre, hno, hat⟩ := h
  unfold maxLen at hcm
  clear hno
  replace hat := hid hat
  by_cases h6 : 6 < l.length
  · have hr := hid (flights_long h6)
    go_enter Try.func26, Try.ntmps26
    go_wp2_with fail
    go_ret
    exact ⟨ret_i hr.out.symm, Below.refl _ _⟩
  · have hr := hid (flights_short h6)
    generalize flightsFault l = z at *
    have hmm := @run_makeMap Try.prog
    go_enter Try.func26, Try.ntmps26
    go_wp2_with fail
    go_loopw [3, 4, 5, 6, 8, 14] (fun _ _ _ _ _ i wr => ∃ (k : Nat), k ≤ l.length ∧ i = .int .i64 (k : Int) ∧ Hid (z = flightsFrom l k (l.drop k)) ∧ Hid (Below w.heap.size w wr)) (fun _ _ _ _ _ i _ => l.length - (intOf i).toNat)
    case atStart => exact ⟨0, by omega, rfl, hr, hid (Below.refl _ _)⟩
    case round =>
      obtain ⟨k, hk, rfl, hz, hb⟩ := hrel
      by_cases hlt : k < l.length
      · have hx : l[k]? = some l[k] := List.getElem?_eq_getElem hlt
        generalize l[k] = x at hx
        obtain ⟨bb, off, rfl, hbb, he⟩ := hat.out k _ hx
        obtain ⟨dv, c0, c1, c2, rdv, s0, wf⟩ := EFlight.stable _ _ _ _ _ hb.out hbb he
        have hbw : bb < wr.heap.size := Nat.lt_of_lt_of_le hbb hb.out.size
        have hstep := hid (fun h0 => flights_step hz.out hx h0)
        have hstop := hid (fun (n : Int) (h0 : flightFault l k x = n) (hn : n ≠ 0) => flights_stop hz.out hx h0 hn)
        have hf1 := hid (fun hh => fl_hex (l := l) (k := k) (x := x) hh)
        have hf2 := hid (fun hh h2 => fl_twice (l := l) (k := k) (x := x) hh h2)
        have hf3 := hid (fun hh h2 h3 => fl_size (l := l) (k := k) (x := x) hh h2 h3)
        have hf4 := hid (fun hh h2 h3 => fl_crew (l := l) (k := k) (x := x) hh h2 h3)
        have hAt := hid (fun w g => ref_FlightAt (.slice (some ⟨bb, off, none⟩) l.length c) l x.key w g)
        have hwl := ri_wf rdv
        obtain ⟨da, dc, rfl, -⟩ := id rdv
        replace rdv := hid rdv
        replace hwl := hid hwl
        clear he hx hz hr
        have hc := hid (fun w => ref_HexFault_any x.key w s0)
        have hba := hid (b_alloc (Below.refl _ wr) (Obj.cells #[.string x.key, .int .i64 x.leader, .slice da x.waiters.length dc] 115))
        have hq1 := hid (heap_alloc_new wr (Obj.cells #[.string x.key, .int .i64 x.leader, .slice da x.waiters.length dc] 115))
        have hsz1 : wr.heap.size < (wr.alloc (Obj.cells #[.string x.key, .int .i64 x.leader, .slice da x.waiters.length dc] 115)).heap.size := by simp
        by_cases hh : hexFault x.key = 0
        · rw [hh] at hc
          have hh' := hid hh
          clear hf1
          go_wp2_with fail
          ((with_reducible refine (hc.out _).mono ?_); rintro e w1 ⟨rfl, b1⟩)
          have hq2 := (b1.block wr.heap.size hsz1).trans hq1.out
          have hb2 := b_call hba.out b1
          obtain ⟨x0, x1, x2, f0, f1, f2⟩ := box3f hq2
          have hsz2 : wr.heap.size < w1.heap.size := (Array.getElem?_eq_some_iff.1 hq2).1
          have hbT := hid (hb.out.trans (hb2.mono hb.out.size))
          replace hq2 := hid hq2
          replace hb2 := hid hb2
          clear b1 hq1 hba hsz1 hh
          have hlt0 : (atKey (fun x : Flight => x.key) x.key l : Int) < (k : Int) ↔ atKey (fun x : Flight => x.key) x.key l < k := by omega
          go_wp2_with fail
          ((with_reducible refine (hAt.out w1 (hR.out.mono EFlight.stable hbT.out)).mono ?_); rintro e w2 ⟨rfl, rfl⟩)
          by_cases ht : atKey (fun x : Flight => x.key) x.key l < k
          · have hz6 := hid (hstop.out 6 (hf2.out hh'.out ht) (by decide))
            have tt : decide ((atKey (fun x : Flight => x.key) x.key l : Int) < (k : Int)) = true := by simp; omega
            have tt2 : decide (atKey (fun x : Flight => x.key) x.key l < k) = true := by simp [ht]
            clear hf2 hf3 hf4 hstep hstop ht hlt0 hAt
            generalize atKey (fun x : Flight => x.key) x.key l = ak at *
            go_wp2_with fail
            go_ret
            exact ⟨ret_i hz6.out.symm, hbT.out⟩
          · have tt : decide ((atKey (fun x : Flight => x.key) x.key l : Int) < (k : Int)) = false := by simp; omega
            have tt2 : decide (atKey (fun x : Flight => x.key) x.key l < k) = false := by simp; omega
            by_cases h5 : 5 < x.waiters.length
            · have hz1 := hid (hstop.out 1 (hf3.out hh'.out ht h5) (by decide))
              have t5 : decide (5 < (x.waiters.length : Int)) = true := by simp; omega
              clear hf2 hf3 hf4 hstep hstop ht h5 hlt0 hAt
              generalize atKey (fun x : Flight => x.key) x.key l = ak at *
              go_wp2_with fail
              go_ret
              exact ⟨ret_i hz1.out.symm, hbT.out⟩
            · have hcr := hid (hf4.out hh'.out ht h5)
              have t5 : decide (5 < (x.waiters.length : Int)) = false := by simp; omega
              have h5' : x.waiters.length ≤ 5 := by omega
              clear hf2 hf3 hf4 ht h5 hlt0 hAt
              generalize atKey (fun x : Flight => x.key) x.key l = ak at *
              have hwc : ∀ n ∈ crewOf x, (Lit.int .i64 n).wf = true := fun n hn => by
                rcases List.mem_cons.1 hn with rfl | hn
                · exact wf
                · exact hwl.out n hn
              have hcl : (crewOf x).length ≤ 6 := by show x.waiters.length + 1 ≤ 6; omega
              have hrd := rdv.out.mono EI.stable (b_alloc (b_alloc hb2.out (Obj.map #[] 0)) (Obj.cells #[.int .i64 x.leader] 3))
              have hmade := hid (World.ownsMap.alloc (World.ownsMap_made (H := Unit) w1 Try.prog 3 (plainElem Try.prog 4)) (Obj.cells #[.int .i64 x.leader] 3))
              have hsT := hbT.out.size
              go_wp2_with (at_builtin; go_must (refine wpL_append flat_i rfl (.tmp 38) (.tmp 40) 31 rfl 3 i0 (.int .i64 0) Try.underlying31 ii0 hz0 hz1 hz2 rfl (w1.heap.size + 1) _ [x.leader] rfl (os_oneI (w1.alloc (Obj.map #[] 0)) _ _ _ (by simp) (by simp)) _ x.waiters rfl hrd ?c1 ?c2 ?c3 ?_))
              case c1 => simp; omega
              case c2 => simp [maxLen]; omega
              case c3 => simp
              intro v4 w4 o4 hg4
              have hmet0 : Hid (Met w4 w1.heap.size 0 ((crewOf x).take 0)) := hid ⟨_, hmade.out.kept hg4 (by simp [Value.ownBlock]), seen_nil⟩
              have hbU := hid ((((hbT.out.alloc hsT (Obj.map #[] 0)).alloc (by simp; omega) (Obj.cells #[.int .i64 x.leader] 3)).grown hg4 (by simp; omega) (fun q hq => by simp [Value.ownBlock] at hq; omega)))
              replace o4 : OS 3 1 cI w4 (w1.heap.size + 1) v4 (crewOf x) := o4
              obtain ⟨a4, k4, rfl, hl4, hm4, -⟩ := id (OS.len_le o4)
              have o4' : Hid (OS 3 1 cI w4 (w1.heap.size + 1) (.slice a4 (crewOf x).length k4) (crewOf x)) := hid o4
              have hcr0 : Hid (flightFault l k x = crewFault (crewOf x) 0 ((crewOf x).drop 0)) := hcr
              have hl4' : (crewOf x).length ≤ k4 := hl4
              clear o4 hl4
              generalize crewOf x = cw at *
              generalize flightFault l k x = ff at *
              unfold maxLen at hm4
              replace hwc := hid hwc
              clear hcr hg4 hmade hrd hb2 hq2 x0 x1 x2 f0 f1 f2 hbT
              generalize w1.heap.size = mb at *
              go_wp2_with fail
              go_loopw [8, 43] (fun _ i2 wr2 => ∃ (j : Nat), j ≤ cw.length ∧ i2 = .int .i64 (j : Int) ∧ Hid (ff = crewFault cw j (cw.drop j)) ∧ Hid (Met wr2 mb j (cw.take j)) ∧ Hid (OS 3 1 cI wr2 (mb + 1) (.slice a4 cw.length k4) cw) ∧ Hid (Below w.heap.size w wr2)) (fun _ i2 _ => cw.length - (intOf i2).toNat)
              case atStart => exact ⟨0, by omega, rfl, hcr0, hmet0, o4', hbU⟩
              case round =>
                obtain ⟨j, hj, rfl, hcz, hmet, ho, hbW⟩ := hrel
                by_cases hlt2 : j < cw.length
                · have hn : cw[j]? = some cw[j] := List.getElem?_eq_getElem hlt2
                  generalize cw[j] = n at hn
                  obtain ⟨bq, oq, rfl, hbq, he4⟩ := ri_at (reads_i ho.out (by omega) hwc.out) hn
                  obtain ⟨d0, hwn⟩ := he4
                  rw [Nat.mul_one] at d0
                  have htk := hid (List.take_succ_eq_append_getElem hlt2)
                  have hnn : cw[j] = n := (List.getElem?_eq_some_iff.1 hn).2
                  rw [hnn] at htk
                  clear hnn
                  have hwho := fun w => ref_someone n w
                  have hcs := hid (fun h1 h2 => crew_step hcz.out hn h1 h2)
                  have hcr1 := hid (fun h1 => crew_range hcz.out hn h1)
                  have hct := hid (fun h1 h2 => crew_twice hcz.out hn h1 h2)
                  clear hcz hn hbq
                  by_cases hs : 1 ≤ n ∧ n ≤ 1000
                  · have hsb : someB n = true := decide_eq_true hs
                    rw [hsb] at hwho
                    replace hwho := hid hwho
                    clear hsb
                    obtain ⟨D, hown, hseen⟩ := hmet.out
                    have hat9 := hseen.2 n
                    have hseen' := hid (seen_put (n := n) hseen)
                    replace hown := hid hown
                    have hkey := keyed_int hwn
                    by_cases hm : n ∈ cw.take j
                    · rw [decide_eq_true hm] at hat9
                      have hz6 := hid (hstop.out 6 (hct.out hs hm) (by decide))
                      replace hat9 := hid hat9
                      clear hcs hcr1 hct hm hs hstep hstop
                      go_wp2_with fail
                      ((with_reducible refine (hwho.out _).mono ?_); rintro e w5 ⟨rfl, rfl⟩)
                      go_wp2_with (at_lookup; refine wpList_lookup_bool _ rfl _ _ 123 rfl 3 4 map_key Try.underlying123 Try.underlying4 (zero_bool _) mb j D rfl hown.out _ _ rfl hkey true hat9.out ?_)
                      go_wp2_with fail
                      go_ret
                      exact ⟨ret_i hz6.out.symm, hbW.out⟩
                    · rw [decide_eq_false hm] at hat9
                      have hn2 := hid (hcs.out hs hm)
                      replace hat9 := hid hat9
                      clear hcs hcr1 hct hm hs
                      go_wp2_with fail
                      ((with_reducible refine (hwho.out _).mono ?_); rintro e w5 ⟨rfl, rfl⟩)
                      go_wp2_with (first
                        | (at_lookup; refine wpList_lookup_bool _ rfl _ _ 123 rfl 3 4 map_key Try.underlying123 Try.underlying4 (zero_bool _) mb j D rfl hown.out _ _ rfl hkey false hat9.out ?_)
                        | (at_mapUpdate; refine wpList_mapUpdate_own _ rfl _ _ _ 123 rfl 3 4 map_key Try.underlying123 _ mb j D rfl hown.out (by unfold maxLen; omega) _ _ _ rfl rfl hkey _ [] (plainElem_bool Try.underlying4 true) ?_))
                      intro w6 hown6 hg6
                      have hmet6 : Hid (Met w6 mb (j + 1) (cw.take (j + 1))) := hid ⟨_, hown6, by rw [htk.out]; exact hseen'.out⟩
                      have ho6 := hid (World.ownsRow.kept (row := some mb) ho.out hg6 (Or.inr (fun e => by have := OS.block ho.out mb e; omega)) : OS 3 1 cI w6 (mb + 1) _ cw)
                      have hb6 := hid (hbW.out.grown hg6 hbW.out.size (fun q hq => by simp at hq; omega))
                      clear hown6 hg6 hown hat9 hmet ho hbW hseen hseen'
                      go_wp2_with fail
                      go_roundw
                      case rel => exact ⟨j + 1, by omega, by go_num, hn2, hmet6, ho6, hb6⟩
                      case measure => simp [intOf]; omega
                  · have hsb : someB n = false := decide_eq_false hs
                    rw [hsb] at hwho
                    replace hwho := hid hwho
                    have hz4 := hid (hstop.out 4 (hcr1.out hs) (by decide))
                    clear hsb hcs hcr1 hct hs hstep hstop
                    go_wp2_with fail
                    ((with_reducible refine (hwho.out _).mono ?_); rintro e w5 ⟨rfl, rfl⟩)
                    go_wp2_with fail
                    go_ret
                    exact ⟨ret_i hz4.out.symm, hbW.out⟩
                · obtain rfl : j = cw.length := by omega
                  have hff := hid (hstep.out (crew_end hcz.out))
                  clear hstep hstop hcz hcr0
                  go_wp2_with fail
                  go_roundw
                  case rel => exact ⟨k + 1, by omega, by go_num, hff, hbW⟩
                  case measure => simp [intOf]; omega
        · have hz1 := hid (hstop.out _ (hf1.out hh) hh)
          have th : (hexFault x.key != 0) = true := by simp [hh]
          clear hf1 hf2 hf3 hf4 hstep hstop hAt
          generalize hexFault x.key = hv at *
          replace hh := hid hh
          go_wp2_with fail
          ((with_reducible refine (hc.out _).mono ?_); rintro e w1 ⟨rfl, b1⟩)
          have hbV := hid (b_call (b_alloc hb.out _) b1)
          clear b1
          go_wp2_with fail
          go_ret
          exact ⟨ret_i hz1.out.symm, hbV.out⟩
      · obtain rfl : k = l.length := by omega
        have hr0 := hid (flights_end hz.out)
        go_wp2_with fail
        go_ret
        exact ⟨ret_i hr0.out.symm, hb.out⟩
end Go.Proofs.Ytaojfpgbpakmpaa
