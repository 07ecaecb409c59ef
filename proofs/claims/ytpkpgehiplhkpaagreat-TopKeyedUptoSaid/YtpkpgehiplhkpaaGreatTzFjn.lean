import Derived.Test.YtpkpgehiplhkpaaGreatTzFjL
namespace Go.Proofs.YtpkpgehiplhkpaaGreat
open Go.RowKit
theorem qzfjn_3 {P : Prop} (h : P := by decide) : P := h
theorem qzfjn_2 {P : Prop} (h : P := by simp only [List.length_append, List.length_cons, List.length_nil]; omega) : P := h
theorem qzfjn_1 {P : Prop} (h : P := by
 go_wp2_with fail
 ((with_reducible refine hcon.mono ?_); rintro e w7 ⟨rfl, rfl⟩)
 go_wp2_with fail
 go_ret3
 exact kO.out _ _ _ hd.out qzfjn_3 hb6.out) : P := h
def OwnedFlight (l : List Flight) (B : Nat) (w : World) (e : Ending) (w' : World) : Prop := ∃ v', e = .returned v' ∧ OFlight w' B v' l ∧ Below B w w'
set_option maxRecDepth 100000 in
set_option maxHeartbeats 1000000 in
theorem slices_Clone_F (v : Value) (l : List Flight) (B : Nat) (w : World) (h : OFlight w B v l) (hB : B ≤ w.heap.size) (hbs : l.length * 48 ≤ 140737488351232) :
 Calls Tryz.prog 261 #[v] w (OwnedFlight l B w) := by
 obtain ⟨i0, hi, hz0, hz1, hz2⟩ := info_parts info_F
 obtain ⟨rs, rfl, hown, hcs⟩ := h
 rw [List.length_map] at hbs
 have hrd : RS 3 48 (ERaw (xc cFlight (·.waiters))) w v rs := OS.reads (cells := xc cFlight (·.waiters)) xcFlight_len qzfjn_3 (fun b o r _ hc j u hj => by
  have hlt := (List.getElem?_eq_some_iff.1 hj).1
  rw [hc j (by rw [xcFlight_len] at hlt; exact hlt), hj]) hown hbs
 have hh := hrd
 obtain ⟨a, c, rfl, hlc, hcm, hre, hno, hat⟩ := hh
 replace hcs := hid hcs
 clear hat hown
 cases a with
 | none =>
   have hc0 := hno rfl
   subst hc0
   have hl0 : rs = [] := List.eq_nil_of_length_eq_zero (by omega)
   subst hl0
   have he := fun w => Lib.run_eql_slice_nil (P := Tryz.prog) w 33 138 none 0 0 0 0 Tryz.underlying33
   clear hrd
   go_enter Tryz.func261, Tryz.ntmps261
   go_wp2
   go_ret
   exact ⟨_, rfl, OX.nil, Below.refl _ _⟩
 | some ad =>
   have he := fun w => Lib.run_eql_slice_nil (P := Tryz.prog) w 33 138 (some ad) rs.length c 0 0 Tryz.underlying33
   clear hno
   replace hrd := hid hrd
   go_enter Tryz.func261, Tryz.ntmps261
   go_wp2_with (at_builtin; go_must (refine wpL_append flat_cFlight rfl (.tmp 5) (.tmp 6) 33 rfl 138 i0 _ Tryz.underlying33 hi hz0 hz1 hz2 rfl w.heap.size _ [] rfl (os_empty' _ _ _ _ (by simp) (by simp)) _ rs rfl (hrd.out.mono ERaw.stable (b_alloc (Below.refl _ _) _)) (by simp; omega) (by simp [maxLen]; omega) (by simp) ?_))
   intro v' w1 hown hg
   have hb := b_grown (b_alloc (Below.refl _ w) (.cells #[] 138)) hg (fun k hk => by simp [Value.ownBlock] at hk; omega)
   have hO : Hid (OFlight w1 B v' (rs.map (·.x))) := hid ⟨rs, rfl, OS.mono (by simpa using hown) hB, fun q hq => CO.below hb _ _ (hcs.out q hq)⟩
   replace hb := hid (hb.mono hB)
   clear hg hown hcs hrd
   go_wp2
   go_ret
   exact ⟨_, rfl, hO.out, hb.out⟩
theorem OFlight.swap {W : World} {B g n cap i : Nat} {rs : List (XR Flight)} {r : XR Flight} {y : Flight} {ca : Option Addr} {cc : Nat} (hown : OS 138 3 (xc cFlight (·.waiters)) W B (.slice (some ⟨g, 0, none⟩) n cap) rs)
 (hr : rs[i]? = some r) (hk : y.key = r.x.key) (hl : y.leader = r.x.leader) (hcs : ∀ (j : Nat) q, rs[j]? = some q → j ≠ i → OS 3 1 cI W B (q.v (·.waiters)) q.x.waiters) (hc : OS 3 1 cI W B (.slice ca y.waiters.length cc) y.waiters) :
 OFlight (W.setCell ⟨g, i * 3 + 2, none⟩ (.slice ca y.waiters.length cc)) B (.slice (some ⟨g, 0, none⟩) n cap) ((rs.map (·.x)).set i y) := by
 obtain ⟨cur, hcur⟩ := OS.owns hown
 refine ⟨rs.set i ⟨y, ca, cc⟩, by rw [List.map_set], OS.put hown xcFlight_len hr qzfjn_3 ?_, fun q hq => ?_⟩
 · unfold xc cFlight XR.v
   rw [hk, hl]
   rfl
 obtain ⟨j, hj⟩ := List.getElem?_of_mem hq
 by_cases hji : j = i
 · subst hji
   rw [List.getElem?_set_self (List.getElem?_eq_some_iff.1 hr).1] at hj
   cases hj
   exact OS.other' hc hcur qzfjn_3
 rw [List.getElem?_set_ne (fun e => hji e.symm)] at hj
 exact OS.other' (hcs j q hj hji) hcur qzfjn_3
theorem SepF.apart {rs : List (XR Flight)} (h : SepF rs) {i j : Nat} {p q : XR Flight} (hp : rs[i]? = some p) (hq : rs[j]? = some q) (hij : j ≠ i) (b : Nat) (hb : (p.v (·.waiters)).ownBlock = some b) : (q.v (·.waiters)).ownBlock ≠ some b := by
 obtain ⟨hi, rfl⟩ := List.getElem?_eq_some_iff.1 hp
 obtain ⟨hj, rfl⟩ := List.getElem?_eq_some_iff.1 hq
 have hpw := List.pairwise_iff_getElem.1 h
 rcases Nat.lt_or_gt_of_ne hij with h1 | h1
 · intro h2
   exact hpw j i hj hi h1 b h2 hb
 exact hpw i j hi hj h1 b hb
def JoinPost (z zk n : Int) (s : ByteArray) (l : List Flight) (w : World) (e : Ending) (w' : World) : Prop :=
 ∃ v, e = .returned (.tuple #[v, .bool (joinB z zk n s l), .int .i64 (joinE z zk n s l)]) ∧ RF w' v (joinL z zk n s l) ∧ OFlight w' w.heap.size v (joinL z zk n s l) ∧ Below w.heap.size w w'
theorem join_no {z zk n k : Int} {s : ByteArray} {l : List Flight} {w w' : World} (h : joinE z zk n s l = k) (hk : k ≠ 0) (hb : Below w.heap.size w w') : JoinPost z zk n s l w (.returned (.tuple #[.slice none 0 0, .bool false, .int .i64 k])) w' := by
 have e1 : joinL z zk n s l = [] := by unfold joinL; rw [if_neg (by rw [h]; exact hk)]
 have e2 : joinB z zk n s l = false := by unfold joinB; rw [if_neg (by rw [h]; exact hk)]
 exact ⟨_, by rw [h, e2], by rw [e1]; exact RS.nil, by rw [e1]; exact OX.nil, hb⟩
theorem join_new {z zk n : Int} {s : ByteArray} {l : List Flight} {w w' : World} {v : Value} (h : joinE z zk n s l = 0) (hi : l[atKey (·.key) s l]? = none) (hr : RF w' v (l ++ [⟨s, n, []⟩])) (ho : OFlight w' w.heap.size v (l ++ [⟨s, n, []⟩])) (hb : Below w.heap.size w w') :
 JoinPost z zk n s l w (.returned (.tuple #[v, .bool true, .int .i64 0])) w' := by
 have e1 : joinL z zk n s l = l ++ [⟨s, n, []⟩] := by unfold joinL; rw [if_pos h, hi]
 have e2 : joinB z zk n s l = true := by unfold joinB; rw [if_pos h, hi]
 exact ⟨v, by rw [h, e2], by rw [e1]; exact hr, by rw [e1]; exact ho, hb⟩
theorem join_in {z zk n : Int} {s : ByteArray} {l : List Flight} {x : Flight} {w w' : World} {v : Value} (h : joinE z zk n s l = 0) (hi : l[atKey (·.key) s l]? = some x) (hr : RF w' v (l.set (atKey (·.key) s l) { x with waiters := x.waiters ++ [n] }))
 (ho : OFlight w' w.heap.size v (l.set (atKey (·.key) s l) { x with waiters := x.waiters ++ [n] })) (hb : Below w.heap.size w w') : JoinPost z zk n s l w (.returned (.tuple #[v, .bool false, .int .i64 0])) w' := by
 have e1 : joinL z zk n s l = l.set (atKey (·.key) s l) { x with waiters := x.waiters ++ [n] } := by unfold joinL; rw [if_pos h, hi]
 have e2 : joinB z zk n s l = false := by unfold joinB; rw [if_pos h, hi]
 exact ⟨v, by rw [h, e2], by rw [e1]; exact hr, by rw [e1]; exact ho, hb⟩
theorem joinE_z {z zk n : Int} {s : ByteArray} {l : List Flight} (h : z ≠ 0) : joinE z zk n s l = z := by unfold joinE; rw [if_pos h]
theorem joinE_k {zk n : Int} {s : ByteArray} {l : List Flight} (h : zk ≠ 0) : joinE 0 zk n s l = zk := by unfold joinE; rw [if_neg qzfjn_3, if_pos h]
theorem joinE_n {n : Int} {s : ByteArray} {l : List Flight} (h : ¬ (1 ≤ n ∧ n ≤ 1000)) : joinE 0 0 n s l = 4 := by unfold joinE; rw [if_neg qzfjn_3, if_neg qzfjn_3, if_pos h]
theorem joinE_none {n : Int} {s : ByteArray} {l : List Flight} (h : 1 ≤ n ∧ n ≤ 1000) (hi : l[atKey (·.key) s l]? = none) : joinE 0 0 n s l = if l.length = 6 then 7 else 0 := by
 unfold joinE; rw [if_neg qzfjn_3, if_neg qzfjn_3, if_neg (not_not_intro h), hi]
theorem joinE_some {n : Int} {s : ByteArray} {l : List Flight} {x : Flight} (h : 1 ≤ n ∧ n ≤ 1000) (hi : l[atKey (·.key) s l]? = some x) : joinE 0 0 n s l = if n ∈ crewOf x then 6 else if x.waiters.length = 5 then 7 else 0 := by
 unfold joinE; rw [if_neg qzfjn_3, if_neg qzfjn_3, if_neg (not_not_intro h), hi]
set_option maxRecDepth 100000 in
set_option maxHeartbeats 4000000 in
theorem flight_Join (v : Value) (l : List Flight) (s : ByteArray) (n : Int) (w : World) (h : RF w v l) (hs : s.size ≤ 140737488351232) (hwf : (Lit.int .i64 n).wf = true) (z : Int) (hz6 : z = 0 → l.length ≤ 6 ∧ ∀ x ∈ l, x.waiters.length ≤ 5)
 (hch : ∀ w, RF w v l → Calls Tryz.prog 70 #[v] w fun e w' => e = .returned (.int .i64 z) ∧ Below w.heap.size w w') :
 Calls Tryz.prog 218 #[v, .string s, .int .i64 n] w (JoinPost z (hexFault s) n s l w) := by
 obtain ⟨i0, ii0, hz0, hz1, hz2⟩ := info_parts info_F
 obtain ⟨j0, jj0, jz0, jz1, jz2⟩ := info_parts info_int
 replace hch := hid hch
 have hR := hid h
 have hhx := hid (fun w => hex_Check_any s w hs)
 generalize hexFault s = zk at *
 obtain ⟨a, c, rfl, hlc, hcm, hre, hno, hat⟩ := h
 unfold maxLen at hcm
 clear hno
 replace hat := hid hat
 by_cases hz : z = 0
 · subst hz
   obtain ⟨h6, h5⟩ := hz6 rfl
   replace h5 := hid h5
   by_cases hk : zk = 0
   · subst hk
     by_cases hn : 1 ≤ n ∧ n ≤ 1000
     · have hsb : someB n = true := by unfold someB; exact decide_eq_true hn
       have hle := atKey_le (fun x : Flight => x.key) s l
       have hfi : findI (fun x : Flight => x.key) s l = if atKey (fun x : Flight => x.key) s l = l.length then 0 else (atKey (fun x : Flight => x.key) s l : Int) := rfl
       have hfe : findE (fun x : Flight => x.key) s l = if atKey (fun x : Flight => x.key) s l = l.length then 5 else 0 := rfl
       have hN := hid (fun hi => joinE_none (s := s) (l := l) hn hi)
       have hS := hid (fun x hi => joinE_some (s := s) (l := l) (x := x) hn hi)
       have kN := hid (fun w w' v h hi => @join_new 0 0 n s l w w' v h hi)
       have kS := hid (fun x w w' v h hi => @join_in 0 0 n s l x w w' v h hi)
       have kO := hid (fun k w w' h h2 => @join_no 0 0 n k s l w w' h h2)
       generalize JoinPost 0 0 n s l = P at *
       generalize joinE 0 0 n s l = J at *
       generalize atKey (fun x : Flight => x.key) s l = i at *
       by_cases hi : i = l.length
       · rw [if_pos hi] at hfi hfe
         replace hfi := hid hfi
         replace hfe := hid hfe
         have hnone : l[i]? = none := List.getElem?_eq_none (by omega)
         replace hN := hid (hN.out hnone)
         replace kN := hid (fun w w' v h => kN.out w w' v h hnone)
         clear hnone hS kS
         go_enter Tryz.func218, Tryz.ntmps218
         go_wp2_with fail
         ((with_reducible refine (hch.out _ hR.out).mono ?_); rintro e w1 ⟨rfl, b1⟩)
         go_wp2_with fail
         ((with_reducible refine (hhx.out _).mono ?_); rintro e w2 ⟨rfl, b2⟩)
         go_wp2_with fail
         have hb2 := hid (b_call b1 b2)
         have hw3 := flight_who n w2
         rw [hsb] at hw3
         ((with_reducible refine hw3.mono ?_); rintro e w3 ⟨rfl, rfl⟩)
         go_wp2_with fail
         ((with_reducible refine (flight_CopyP _ l w2 (hR.out.mono EFlight.stable hb2.out)).mono ?_); rintro e w4 ⟨rfl, o4, b4⟩)
         go_wp2_with fail
         have hb4 := hid (b_call hb2.out b4)
         have hF := flight_Find _ l s w4 (hR.out.mono EFlight.stable hb4.out)
         rw [hfi.out, hfe.out] at hF
         ((with_reducible refine hF.mono ?_); rintro e w5 ⟨rfl, b5⟩)
         have hb5 := hid (b_call hb4.out b5)
         clear hw3 hF b1 b2 hsb
         have hB := hb2.out.size
         have hfit := hid (fit_F hR.out)
         by_cases h7 : l.length = 6
         · have hd := hid (hN.out.trans (if_pos h7))
           have h7' : ((l.length : Int) == 6) = true := by rw [h7]; rfl
           go_wp2_with fail
           go_ret3
           exact kO.out _ _ _ hd.out qzfjn_3 hb5.out
         have hd := hid (hN.out.trans (if_neg h7))
         have h7' : ((l.length : Int) == 6) = false := beq_eq_false_iff_ne.2 (by omega)
         obtain ⟨rs, hrs, hown, hcs, -⟩ := o4
         have hrl : rs.length = l.length := by have := congrArg List.length hrs; simpa using this
         have hown5 := OS.mono (OS.below hown b5) hB
         have hcs5 := hid (fun q hq => OS.mono (OS.below (hcs q hq) b5) hB)
         have hrow := row_one (s := 3) (bs := 48) (cells := xc cFlight (·.waiters)) w5 138 ⟨⟨s, n, []⟩, none, 0⟩ #[.string s, .int .i64 n, .slice none 0 0] w5.heap.size rfl rfl qzfjn_3
         have hB5 := hb5.out.size
         replace hrs := hid hrs
         clear hown hcs b4 b5
         rw [← hrl] at h6
         go_wp2_with (at_builtin; go_must (refine wpL_append flat_cFlight rfl (.tmp 46) (.tmp 50) 33 rfl 138 i0 _ Tryz.underlying33 ii0 hz0 hz1 hz2 rfl w.heap.size _ rs rfl (OS.alloc hown5 _) _ [⟨⟨s, n, []⟩, none, 0⟩] rfl hrow ?c1 ?c2 ?c3 ?_))
         case c1 => simp only [List.length_cons, List.length_nil]; omega
         case c2 => simp only [List.length_cons, List.length_nil, maxLen]; omega
         case c3 => simp; omega
         intro v6 w6 ho6 hg6
         have hO6 := OX.grow (e' := 3) ho6 hg6 (OS.alloc hown5 _) qzfjn_3 (fun q hq => OS.alloc (hcs5.out q hq) _) (show CO 3 1 cI w.heap.size _ (.slice none 0 0) [] from OS.nil)
         rw [hrs.out] at hO6
         have hb6 := hid ((b_alloc hb5.out _).grown hg6 (by simp; omega) (OS.block hown5))
         have hcl := hid (slices_Clone_F v6 (l ++ [⟨s, n, []⟩]) w.heap.size w6 (show OFlight w6 w.heap.size v6 (l ++ [⟨s, n, []⟩]) from hO6) hb6.out.size qzfjn_2)
         unfold OwnedFlight at hcl
         clear ho6 hg6 hrow hown5 hcs5 hO6 hrs
         go_wp2_with fail
         ((with_reducible refine hcl.out.mono ?_); rintro e w7 ⟨v7, rfl, o7, b7⟩)
         have hb7 := hid (hb6.out.trans b7)
         have hr7 := hid (o7.toR qzfjn_2 (fun x hx => by
          rcases List.mem_append.1 hx with hx | hx
          · exact hfit.out x hx
          · rw [List.mem_singleton] at hx
            subst hx
            exact ⟨⟨hs, hwf⟩, Nat.zero_le _, fun m hm => (by cases hm)⟩))
         replace o7 := hid o7
         clear b7 hcl
         go_wp2_with fail
         go_ret3
         exact kN.out _ _ _ hd.out hr7.out o7.out hb7.out
       have hx : l[i]? = some l[i] := List.getElem?_eq_getElem (by omega)
       generalize l[i] = x at hx
       rw [if_neg hi] at hfi hfe
       have hilt : i < l.length := by omega
       replace hfi := hid hfi
       replace hfe := hid hfe
       replace hS := hid (hS.out x hx)
       replace kS := hid (fun w w' v h => kS.out x w w' v h hx)
       obtain ⟨bb, off, rfl, hbb, he⟩ := hat.out _ _ hx
       have hx5 := h5.out x (List.mem_of_getElem? hx)
       have hfit := hid (fit_F hR.out)
       have hfx := hid (hfit.out x (List.mem_of_getElem? hx))
       have hi0 : (0 : Int) ≤ (i : Int) := by omega
       have hi1 : (i : Int) < (l.length : Int) := by omega
       clear hN kN
       go_enter Tryz.func218, Tryz.ntmps218
       go_wp2_with fail
       ((with_reducible refine (hch.out _ hR.out).mono ?_); rintro e w1 ⟨rfl, b1⟩)
       go_wp2_with fail
       ((with_reducible refine (hhx.out _).mono ?_); rintro e w2 ⟨rfl, b2⟩)
       go_wp2_with fail
       have hb2 := hid (b_call b1 b2)
       have hw3 := flight_who n w2
       rw [hsb] at hw3
       ((with_reducible refine hw3.mono ?_); rintro e w3 ⟨rfl, rfl⟩)
       go_wp2_with fail
       ((with_reducible refine (flight_CopyP _ l w2 (hR.out.mono EFlight.stable hb2.out)).mono ?_); rintro e w4 ⟨rfl, o4, b4⟩)
       go_wp2_with fail
       have hb4 := hid (b_call hb2.out b4)
       have hF := flight_Find _ l s w4 (hR.out.mono EFlight.stable hb4.out)
       rw [hfi.out, hfe.out] at hF
       ((with_reducible refine hF.mono ?_); rintro e w5 ⟨rfl, b5⟩)
       have hb5 := hid (b_call hb4.out b5)
       have hB := hb2.out.size
       obtain ⟨dv, c0, c1, c2, rdv, s0, wf⟩ := EFlight.stable _ _ _ _ _ hb5.out hbb he
       have hbb5 : bb < w5.heap.size := Nat.lt_of_lt_of_le hbb hb5.out.size
       have hwl := hid (ri_wf rdv)
       obtain ⟨da, dc, rfl, -⟩ := id rdv
       clear hw3 hF b1 b2 hsb
       have hcr := hid (flight_crew x _ w5 rdv)
       go_wp2_with fail
       ((with_reducible refine hcr.out.mono ?_); rintro e w6 ⟨v6, rfl, o6, b6⟩)
       have hb6 := hid (b_call hb5.out b6)
       have r6 : RI w6 v6 (crewOf x) := reads_i o6 (by show (x.waiters.length + 1) * 8 ≤ _; omega) (fun n hn => by
        rcases List.mem_cons.1 hn with rfl | hn
        · exact wf
        · exact hwl.out n hn)
       have hcon := slices_Contains_int v6 (crewOf x) n w6 r6
       have k0 := cell_stays b6 hbb5 c0
       have k1 := cell_stays b6 hbb5 c1
       have k2 := cell_stays b6 hbb5 c2
       have hbb6 : bb < w6.heap.size := Nat.lt_of_lt_of_le hbb5 b6.size
       clear hcr rdv he c0 c1 c2
       by_cases hin : n ∈ crewOf x
       · have hd := hid (hS.out.trans (if_pos hin))
         rw [decide_eq_true hin] at hcon
         replace hin := hid hin
         exact qzfjn_1
       have hd0 := hid (hS.out.trans (if_neg hin))
       rw [decide_eq_false hin] at hcon
       replace hin := hid hin
       by_cases h9 : x.waiters.length = 5
       · have hd := hid (hd0.out.trans (if_pos h9))
         have h9' : ((x.waiters.length : Int) == 5) = true := by rw [h9]; rfl
         exact qzfjn_1
       have hd := hid (hd0.out.trans (if_neg h9))
       have h9' : ((x.waiters.length : Int) == 5) = false := beq_eq_false_iff_ne.2 (by omega)
       obtain ⟨rs, hrs, hown, hcs, hsep⟩ := o4
       have hr : ∃ r, rs[i]? = some r ∧ r.x = x := by
        have h1 : (rs.map (·.x))[i]? = some x := by rw [hrs]; exact hx
        rw [List.getElem?_map] at h1
        exact Option.map_eq_some_iff.1 h1
       obtain ⟨r, hr, hrx⟩ := hr
       have hrl : rs.length = l.length := by have := congrArg List.length hrs; simpa using this
       have hown6 := OS.mono (OS.below (OS.below hown b5) b6) hB
       have hcs6 := hid (fun q hq => OS.mono (OS.below (OS.below (hcs q hq) b5) b6) hB)
       have hci := hcs6.out r (List.mem_of_getElem? hr)
       have hm2 := OS.cell (o := 2) (u := .slice r.a r.x.waiters.length r.c) hown6 xcFlight_len hr rfl
       rw [hrx] at hm2
       have hcv : OS 3 1 cI w6 w.heap.size (.slice r.a x.waiters.length r.c) x.waiters := by rw [← hrx]; exact hci
       have hown6' := hid hown6
       have hB6 := hb6.out.size
       have hg6 : w2.heap.size < w6.heap.size := (World.ownsRow.lt hown6 _ rfl).2
       have hrow : RS 1 8 EI (w6.alloc (Obj.cells #[.int .i64 n] 3)) (.slice (some ⟨w6.heap.size, 0, none⟩) 1 1) [n] := reads_i (os_oneI w6 w6.heap.size w6.heap.size n rfl (Nat.le_refl _)) (by simp) (fun m hm => by rw [List.mem_singleton] at hm; subst hm; exact hwf)
       replace hrs := hid hrs
       replace hr := hid hr
       replace hrx := hid hrx
       replace hsep := hid hsep
       clear hown hcs b4 b5 o6 b6 hci r6
       go_wp2_with fail
       ((with_reducible refine hcon.mono ?_); rintro e w7 ⟨rfl, rfl⟩)
       go_wp2_with (at_builtin; go_must (refine wpL_append flat_i rfl (.tmp 75) (.tmp 77) 43 rfl 3 j0 _ Tryz.underlying43 jj0 jz0 jz1 jz2 rfl w.heap.size _ x.waiters rfl (OS.alloc hcv _) _ [n] rfl hrow ?c1 ?c2 ?c3 ?_))
       case c1 => simp only [List.length_cons, List.length_nil]; omega
       case c2 => simp only [List.length_cons, List.length_nil, maxLen]; omega
       case c3 => simp; omega
       intro v8 w8 ho8 hg8
       have hown8 := OS.apart (OS.alloc hcv _) (OS.alloc hown6'.out (Obj.cells #[.int .i64 n] 3)) qzfjn_3 hg8
       have hcs8 := hid (fun (j : Nat) q (hj : rs[j]? = some q) (hij : j ≠ i) => OS.keptBy (OS.alloc (show OS 3 1 cI w6 w.heap.size _ _ from hcs6.out q (List.mem_of_getElem? hj)) (Obj.cells #[.int .i64 n] 3)) hg8 (fun b hb => hsep.out.apart hr.out hj hij b (by
        show (Value.slice r.a r.x.waiters.length r.c).ownBlock = some b
        rw [hrx.out]
        exact hb)))
       have hb8 := hid ((b_alloc hb6.out _).grown hg8 (by simp; omega) (OS.block hcv))
       have r8 : RI w8 v8 (x.waiters ++ [n]) := reads_i ho8 qzfjn_2 (fun m hm => by
        rcases List.mem_append.1 hm with hm | hm
        · exact hwl.out m hm
        · rw [List.mem_singleton] at hm
          subst hm
          exact hwf)
       have hcl := hid (slices_Clone_int v8 (x.waiters ++ [n]) w8 r8)
       clear hg8 ho8 hrow hm2 hcv hown6 hown6' hcs6 hcon k0 k1 k2 r8
       go_wp2_with fail
       ((with_reducible refine hcl.out.mono ?_); rintro e w9 ⟨v9, rfl, o9, b9⟩)
       obtain ⟨c9, k9, rfl, -⟩ := OS.len_le o9
       have hown9 := OS.below hown8 b9
       have hb9 := hid (b_call hb8.out b9)
       obtain ⟨cur, hcur⟩ := OS.owns hown9
       have hg9 := heap_lt' hcur
       have m2 := OS.cell (o := 2) (u := .slice r.a r.x.waiters.length r.c) hown9 xcFlight_len hr.out rfl
       have f2 := frozen_heap hcur (i * 3 + 2)
       have hO := OFlight.swap (y := { x with waiters := x.waiters ++ [n] }) hown9 hr.out (by rw [hrx.out]) (by rw [hrx.out]) (fun j q hj hij => OS.below (hcs8.out j q hj hij) b9) (OS.mono o9 hb8.out.size)
       rw [hrs.out] at hO
       have hb10 := hid (b_set hb9.out (p := ⟨w2.heap.size, i * 3 + 2, none⟩) hB (.slice c9 (x.waiters ++ [n]).length k9))
       have hr10 := hid (hO.toR (by rw [List.length_set]; omega) (set_all' hfit.out (show FitFlight { x with waiters := x.waiters ++ [n] } from ⟨hfx.out.1, by simp only [List.length_append, List.length_cons, List.length_nil]; omega, fun m hm => by
        rcases List.mem_append.1 hm with hm | hm
        · exact hwl.out m hm
        · rw [List.mem_singleton] at hm
          subst hm
          exact hwf⟩)))
       have hlen : (x.waiters ++ [n]).length = x.waiters.length + 1 := by simp
       rw [hlen] at hb10 hr10 hO
       replace hO := hid hO
       clear hlen hown8 hown9 hcs8 o9 b9 hcl hcur
       go_wp2_with fail
       go_ret3
       exact kS.out _ _ _ hd.out hr10.out hO.out hb10.out
     have hsb : someB n = false := by unfold someB; exact decide_eq_false hn
     have hd := hid (joinE_n (s := s) (l := l) hn)
     replace hn := hid hn
     go_enter Tryz.func218, Tryz.ntmps218
     go_wp2_with fail
     ((with_reducible refine (hch.out _ hR.out).mono ?_); rintro e w1 ⟨rfl, b1⟩)
     go_wp2_with fail
     ((with_reducible refine (hhx.out _).mono ?_); rintro e w2 ⟨rfl, b2⟩)
     go_wp2_with fail
     ((with_reducible refine (flight_who n _).mono ?_); rintro e w3 ⟨rfl, rfl⟩)
     go_wp2_with fail
     go_ret3
     exact join_no hd.out qzfjn_3 (b_call b1 b2)
   have ht : (zk != 0) = true := by simp [hk]
   have hd := hid (joinE_k (n := n) (s := s) (l := l) hk)
   replace hk := hid hk
   go_enter Tryz.func218, Tryz.ntmps218
   go_wp2_with fail
   ((with_reducible refine (hch.out _ hR.out).mono ?_); rintro e w1 ⟨rfl, b1⟩)
   go_wp2_with fail
   ((with_reducible refine (hhx.out _).mono ?_); rintro e w2 ⟨rfl, b2⟩)
   go_wp2_with fail
   go_ret3
   exact join_no hd.out hk.out (b_call b1 b2)
 have ht : (z != 0) = true := by simp [hz]
 have hd := hid (joinE_z (zk := zk) (n := n) (s := s) (l := l) hz)
 replace hz := hid hz
 go_enter Tryz.func218, Tryz.ntmps218
 go_wp2_with fail
 ((with_reducible refine (hch.out _ hR.out).mono ?_); rintro e w1 ⟨rfl, b1⟩)
 go_wp2_with fail
 go_ret3
 exact join_no hd.out hz.out b1
end Go.Proofs.YtpkpgehiplhkpaaGreat
