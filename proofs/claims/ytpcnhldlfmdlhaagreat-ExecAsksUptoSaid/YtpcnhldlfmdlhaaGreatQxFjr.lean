/-
  The reference's FlightJoined: what it answers.
-/
import Derived.Test.YtpcnhldlfmdlhaaGreatQxFjn
import Derived.ArgAppend
import Derived.Deep.RegionHeld3
namespace Go.Proofs.YtpcnhldlfmdlhaaGreat
open Go.RowKit

/-- append to a full slice, whoever owns it: a step of a region that draws its order. -/
theorem stepL_append_full {α : Type} {P : Program} {w : World} {ops : Array Oper} {o : Oper} {a : Act} {K : Act → World → Prop} {Q : Exit → Act → World → Prop} {X : Prop} {s bs : Nat} {cells : α → List Value} {E : World → Nat → Nat → α → Prop} (F : Flat s cells E)
    (hgd : o.guard = none) (x y : Operand) (t : TypeId) (ho : o.op = .call { callee := .builtin .append, args := #[x, y], argTypes := #[t, t] })
    (e : TypeId) (i : TypeInfo) (z : Value) (ht : P.underlying t = some (.slice e)) (hi : P.info? e = some i) (hz : i.zero = some z) (hsize : i.size = s) (hby : i.bytes = bs) (hzs : z.cells.size = s)
    (ad : Addr) (n : Nat) (l : List α) (hn : n = l.length) (hs : a.eval x = .slice (some ad) n n) (h1 : RS s bs E w (.slice (some ad) n n) l) (u : Value) (m : List α) (hm : 0 < m.length) (hx : a.eval y = u) (hsrc : RS s bs E w u m)
    (hlen : (l.length + m.length) * bs ≤ 140737488355328) (hmax : l.length + m.length ≤ maxLen)
    (h : ∀ v' w', OS e s cells w' w.heap.size v' (l ++ m) → w.grownBy w' none → K (a.put o.dst v') w') : if Region.wanted o (yielded ops a.tmps) = true then Oper.wp P o a w K Q else X := by
  have hw : Region.wanted o (yielded ops a.tmps) = true := by simp [Region.wanted, hgd]
  rw [if_pos hw]
  subst hn
  rcases hsrc.cells F with ⟨rfl, rfl⟩ | ⟨ad2, c, rfl, hc⟩
  · simp at hm
  · rcases h1.cells F with ⟨h0, _⟩ | ⟨ad1, c1, he, hc1⟩
    · cases h0
    · cases he
      obtain ⟨v', w', hr, hO, hG⟩ := run_append_arg_grows (P := P) (w := w) t o.type e i z s bs ht hi hz hsize hby hzs F.pos ad l.length l.length (l.flatMap cells) (flat_len F.len l) hc1 ad2 m.length c (m.flatMap cells) (flat_len F.len m) hc (by omega) hmax hlen
      unfold Oper.wp execOp
      simp only [ho, resolve, invoke, builtin, Sem.run_bind, Sem.run_pure, Result.andThen_ok, List.map_toArray, List.map_cons, List.map_nil, hs, hx, hr]
      exact h v' w' (by unfold OS; rw [List.length_append, List.flatMap_append]; exact hO) hG

set_option maxRecDepth 100000 in
set_option maxHeartbeats 4000000 in
theorem ref_FlightJoined (v : Value) (l : List Flight) (s : ByteArray) (n : Int) (w : World) (h : RF w v l) (hs : s.size ≤ 140737488351232) (hwf : (Lit.int .i64 n).wf = true) :
    Calls Tryz.prog 67 #[v, .string s, .int .i64 n] w (JoinPost (flightsFault l) (hexFault s) n s l w) := by
  obtain ⟨i0, ii0, hz0, hz1, hz2⟩ := info_parts info_F
  obtain ⟨j0, jj0, jz0, jz1, jz2⟩ := info_parts info_int
  have hz6 : flightsFault l = 0 → l.length ≤ 6 ∧ ∀ x ∈ l, x.waiters.length ≤ 5 := fun h0 => ⟨by
    rcases Nat.lt_or_ge 6 l.length with h6 | h6
    · rw [flights_long h6] at h0; cases h0
    · exact h6, flights_fit h0⟩
  have hch := hid (fun w h => ref_FlightsFault v l w h)
  have hjn := hid (fun (h0 : flightsFault l = 0) i x (hx : l[i]? = some x) (hn : 1 ≤ n ∧ n ≤ 1000) => flights_join h0 hx hn)
  have hf2 := hid (fun v l w h => ref_FlightsFault v l w h)
  generalize flightsFault l = z at *
  have hR := hid h
  have hhx := hid (fun w => ref_HexFault_any s w hs)
  generalize hexFault s = zk at *
  obtain ⟨a, c, rfl, hlc, hcm, hre, hno, hat⟩ := h
  unfold maxLen at hcm
  clear hno
  replace hat := hid hat
  by_cases hz : z = 0
  · subst hz
    obtain ⟨h6, h5⟩ := hz6 rfl
    replace h5 := hid h5
    replace hjn := hid (hjn.out rfl)
    by_cases hk : zk = 0
    · subst hk
      by_cases hn : 1 ≤ n ∧ n ≤ 1000
      · have hsb : someB n = true := by unfold someB; exact decide_eq_true hn
        have hle := atKey_le (fun x : Flight => x.key) s l
        have hAt := hid (fun w g => ref_FlightAt (.slice a l.length c) l s w g)
        have hN := hid (fun hi => joinE_none (s := s) (l := l) hn hi)
        have hS := hid (fun x hi => joinE_some (s := s) (l := l) (x := x) hn hi)
        have kN := hid (fun w w' v h hi => @join_new 0 0 n s l w w' v h hi)
        have kS := hid (fun x w w' v h hi => @join_in 0 0 n s l x w w' v h hi)
        have kO := hid (fun k w w' h h2 => @join_no 0 0 n k s l w w' h h2)
        generalize JoinPost 0 0 n s l = P at *
        generalize joinE 0 0 n s l = J at *
        generalize atKey (fun x : Flight => x.key) s l = i at *
        by_cases hi : i = l.length
        · have hnone : l[i]? = none := List.getElem?_eq_none (by omega)
          replace hN := hid (hN.out hnone)
          replace kN := hid (fun w w' v h => kN.out w w' v h hnone)
          have hq : ((i : Int) == (l.length : Int)) = true := by rw [hi]; simp
          have hfit := hid (fit_F hR.out)
          clear hnone hS kS hjn hf2
          go_enter Tryz.func67, Tryz.ntmps67
          go_wp2_with fail
          ((with_reducible refine (hch.out _ hR.out).mono ?_); rintro e w1 ⟨rfl, b1⟩)
          go_wp2_with fail
          ((with_reducible refine (hhx.out _).mono ?_); rintro e w2 ⟨rfl, b2⟩)
          go_wp2_with fail
          have hb2 := hid (b_call b1 b2)
          have hw3 := ref_someone n w2
          rw [hsb] at hw3
          ((with_reducible refine hw3.mono ?_); rintro e w3 ⟨rfl, rfl⟩)
          go_wp2_with fail
          ((with_reducible refine (ref_FlightsCopyP _ l w2 (hR.out.mono EFlight.stable hb2.out)).mono ?_); rintro e w4 ⟨v4, rfl, o4, b4⟩)
          go_wp2_with fail
          have hb4 := hid (b_call hb2.out b4)
          ((with_reducible refine (hAt.out _ (hR.out.mono EFlight.stable hb4.out)).mono ?_); rintro e w5 ⟨rfl, rfl⟩)
          clear hw3 b1 b2 hsb
          have hB := hb2.out.size
          by_cases h7 : l.length = 6
          · have hd := hid (hN.out.trans (if_pos h7))
            have h7' : ((i : Int) == 6) = true := by rw [hi, h7]; rfl
            go_wp2_with fail
            go_ret3
            exact kO.out _ _ _ hd.out (by decide) hb4.out
          · have hd := hid (hN.out.trans (if_neg h7))
            have h7' : ((i : Int) == 6) = false := beq_eq_false_iff_ne.2 (by omega)
            obtain ⟨rs, hrs, hown, hcs, -⟩ := o4
            have hrl : rs.length = l.length := by have := congrArg List.length hrs; simpa using this
            have hown5 := OS.mono hown hB
            have hcs5 := hid (fun q hq => OS.mono (hcs q hq) hB)
            obtain ⟨a4, c4, hv4, -⟩ := OS.len_le hown5
            rw [hrl] at hv4
            subst hv4
            have hrow := row_one (s := 3) (bs := 48) (cells := xc cFlight (·.waiters)) w4 154 ⟨⟨s, n, []⟩, none, 0⟩ #[.string s, .int .i64 n, .slice none 0 0] w4.heap.size rfl rfl (by decide)
            have hB5 := hb4.out.size
            replace hrs := hid hrs
            clear hown hcs b4
            go_wp2_with (at_builtin; go_must (refine wpL_append flat_cFlight rfl (.tmp 40) (.tmp 44) 33 rfl 154 i0 _ Tryz.underlying33 ii0 hz0 hz1 hz2 rfl w.heap.size _ rs rfl (OS.alloc hown5 _) _ [⟨⟨s, n, []⟩, none, 0⟩] rfl hrow ?c1 ?c2 ?c3 ?_))
            case c1 => simp only [List.length_cons, List.length_nil]; omega
            case c2 => simp only [List.length_cons, List.length_nil, maxLen]; omega
            case c3 => simp; omega
            intro v6 w6 ho6 hg6
            have hO6 := OX.grow (e' := 3) ho6 hg6 (OS.alloc hown5 _) (by decide) (fun q hq => OS.alloc (hcs5.out q hq) _) (show CO 3 1 cI w.heap.size _ (.slice none 0 0) [] from OS.nil)
            rw [hrs.out] at hO6
            replace hO6 := hid (show OFlight w6 w.heap.size v6 (l ++ [⟨s, n, []⟩]) from hO6)
            have hb6 := hid ((b_alloc hb4.out _).grown hg6 (by simp; omega) (OS.block hown5))
            have hr7 := hid (hO6.out.toR (by simp only [List.length_append, List.length_cons, List.length_nil]; omega) (fun x hx => by
              rcases List.mem_append.1 hx with hx | hx
              · exact hfit.out x hx
              · rw [List.mem_singleton] at hx
                subst hx
                exact ⟨⟨hs, hwf⟩, Nat.zero_le _, fun m hm => (by cases hm)⟩))
            clear ho6 hg6 hrow hown5 hcs5 hrs
            go_wp2_with fail
            go_ret3
            exact kN.out _ _ _ hd.out hr7.out hO6.out hb6.out
        · have hx : l[i]? = some l[i] := List.getElem?_eq_getElem (by omega)
          generalize l[i] = x at hx
          have hilt : i < l.length := by omega
          have hq : ((i : Int) == (l.length : Int)) = false := beq_eq_false_iff_ne.2 (by omega)
          replace hS := hid (hS.out x hx)
          replace kS := hid (fun w w' v h => kS.out x w w' v h hx)
          replace hjn := hid (hjn.out i x hx hn)
          obtain ⟨bb, off, rfl, hbb, he⟩ := hat.out _ _ hx
          have hx5 := h5.out x (List.mem_of_getElem? hx)
          have hfit := hid (fit_F hR.out)
          have hfx := hid (hfit.out x (List.mem_of_getElem? hx))
          have hi0 : (0 : Int) ≤ (i : Int) := by omega
          have hi1 : (i : Int) < (l.length : Int) := by omega
          clear hN kN
          go_enter Tryz.func67, Tryz.ntmps67
          go_wp2_with fail
          ((with_reducible refine (hch.out _ hR.out).mono ?_); rintro e w1 ⟨rfl, b1⟩)
          go_wp2_with fail
          ((with_reducible refine (hhx.out _).mono ?_); rintro e w2 ⟨rfl, b2⟩)
          go_wp2_with fail
          have hb2 := hid (b_call b1 b2)
          have hw3 := ref_someone n w2
          rw [hsb] at hw3
          ((with_reducible refine hw3.mono ?_); rintro e w3 ⟨rfl, rfl⟩)
          go_wp2_with fail
          ((with_reducible refine (ref_FlightsCopyP _ l w2 (hR.out.mono EFlight.stable hb2.out)).mono ?_); rintro e w4 ⟨v4, rfl, o4, b4⟩)
          go_wp2_with fail
          have hb4 := hid (b_call hb2.out b4)
          ((with_reducible refine (hAt.out _ (hR.out.mono EFlight.stable hb4.out)).mono ?_); rintro e w5 ⟨rfl, rfl⟩)
          clear hw3 b1 b2 hsb
          have hB := hb2.out.size
          obtain ⟨rs, hrs, hown, hcs, hsep⟩ := o4
          have hr : ∃ r, rs[i]? = some r ∧ r.x = x := by
            have h1 : (rs.map (·.x))[i]? = some x := by rw [hrs]; exact hx
            rw [List.getElem?_map] at h1
            exact Option.map_eq_some_iff.1 h1
          obtain ⟨r, hr, hrx⟩ := hr
          have hrl : rs.length = l.length := by have := congrArg List.length hrs; simpa using this
          rcases os_forms' hown with ⟨-, h0⟩ | ⟨g, k4, rfl, -⟩
          · rw [h0] at hr; cases hr
          · rw [hrl] at hown ⊢
            have hown6 := OS.mono hown hB
            have hcs6 := hid (fun q hq => OS.mono (hcs q hq) hB)
            have hci := hcs6.out r (List.mem_of_getElem? hr)
            have hm2 := OS.cell (o := 2) (u := .slice r.a r.x.waiters.length r.c) hown6 xcFlight_len hr rfl
            rw [hrx] at hm2
            have hcv : OS 3 1 cI w4 w.heap.size (.slice r.a x.waiters.length r.c) x.waiters := by rw [← hrx]; exact hci
            have hown6' := hid hown6
            have hB6 := hb4.out.size
            have hg6 : g < w4.heap.size := (World.ownsRow.lt hown6 _ rfl).2
            have hgB : w.heap.size ≤ g := (World.ownsRow.lt hown6 _ rfl).1
            have hrow : RS 1 8 EI (w4.alloc (Obj.cells #[.int .i64 n] 3)) (.slice (some ⟨w4.heap.size, 0, none⟩) 1 1) [n] := reads_i (os_oneI w4 w4.heap.size w4.heap.size n rfl (Nat.le_refl _)) (by simp) (fun m hm => by rw [List.mem_singleton] at hm; subst hm; exact hwf)
            replace hrs := hid hrs
            replace hr := hid hr
            replace hrx := hid hrx
            replace hsep := hid hsep
            clear hown hcs b4 hci hrl
            go_wp2_with (at_builtin; go_must (refine wpL_append flat_i rfl (.tmp 52) (.tmp 54) 43 rfl 3 j0 _ Tryz.underlying43 jj0 jz0 jz1 jz2 rfl w.heap.size _ x.waiters rfl (OS.alloc hcv _) _ [n] rfl hrow ?c1 ?c2 ?c3 ?_))
            case c1 => simp only [List.length_cons, List.length_nil]; omega
            case c2 => simp only [List.length_cons, List.length_nil, maxLen]; omega
            case c3 => simp; omega
            intro v8 w8 ho8 hg8
            have hown8 := OS.apart (OS.alloc hcv _) (OS.alloc hown6'.out (Obj.cells #[.int .i64 n] 3)) (by decide) hg8
            have hcs8 := hid (fun (j : Nat) q (hj : rs[j]? = some q) (hij : j ≠ i) => OS.keptBy (OS.alloc (show OS 3 1 cI w4 w.heap.size _ _ from hcs6.out q (List.mem_of_getElem? hj)) (Obj.cells #[.int .i64 n] 3)) hg8 (fun b hb => hsep.out.apart hr.out hj hij b (by
              show (Value.slice r.a r.x.waiters.length r.c).ownBlock = some b
              rw [hrx.out]
              exact hb)))
            have hb8 := hid ((b_alloc hb4.out _).grown hg8 (by simp; omega) (OS.block hcv))
            obtain ⟨c9, k9, rfl, -⟩ := OS.len_le ho8
            obtain ⟨cur, hcur⟩ := OS.owns hown8
            have hg9 := heap_lt' hcur
            have m2 := OS.cell (o := 2) (u := .slice r.a r.x.waiters.length r.c) hown8 xcFlight_len hr.out rfl
            have f2 := frozen_heap hcur (i * 3 + 2)
            have hO := OFlight.swap (y := { x with waiters := x.waiters ++ [n] }) hown8 hr.out (by rw [hrx.out]) (by rw [hrx.out]) hcs8.out ho8
            rw [hrs.out] at hO
            have hb10 := hid (b_set hb8.out (p := ⟨g, i * 3 + 2, none⟩) hgB (.slice c9 (x.waiters ++ [n]).length k9))
            have hwl : ∀ m ∈ x.waiters ++ [n], (Lit.int .i64 m).wf = true := fun m hm => by
              rcases List.mem_append.1 hm with hm | hm
              · exact hfx.out.2.2 m hm
              · rw [List.mem_singleton] at hm
                subst hm
                exact hwf
            have hr10 := hid (hO.toR (by rw [List.length_set]; omega) (set_all' hfit.out (show FitFlight { x with waiters := x.waiters ++ [n] } from ⟨hfx.out.1, by simp only [List.length_append, List.length_cons, List.length_nil]; omega, hwl⟩)))
            have hlen : (x.waiters ++ [n]).length = x.waiters.length + 1 := by simp
            rw [hlen] at hb10 hr10 hO
            replace hO := hid hO
            have hf3 := hid (fun w' (hb : Below (w8.setCell ⟨g, i * 3 + 2, none⟩ (.slice c9 (x.waiters.length + 1) k9)).heap.size (w8.setCell ⟨g, i * 3 + 2, none⟩ (.slice c9 (x.waiters.length + 1) k9)) w') => And.intro (OFlight.after hO.out hb) (hr10.out.mono EFlight.stable hb))
            have hff := hf2.out _ _ _ hr10.out
            rw [hjn.out] at hff
            have hxr := EFlight.stable _ _ _ _ _ hb10.out hbb he
            clear hlen hown8 hcs8 ho8 hcur hg8 hrow hm2 hcv hown6 hown6' hcs6 hf2 hjn hwl
            by_cases h9 : x.waiters.length = 5
            · rw [if_pos h9] at hff
              have hd0 := hS.out
              rw [if_pos h9] at hd0
              replace hd0 := hid (show J = if n ∈ x.waiters ++ [x.leader] then 6 else 7 by
                rw [hd0]
                have hm : (n ∈ x.waiters ++ [x.leader]) ↔ n ∈ crewOf x := by unfold crewOf; simp [or_comm]
                by_cases h1 : n ∈ crewOf x
                · rw [if_pos h1, if_pos (hm.2 h1)]
                · rw [if_neg h1, if_neg (fun h2 => h1 (hm.1 h2))])
              replace h9 := hid h9
              replace hff := hid hff
              go_wp2_with fail
              ((with_reducible refine hff.out.mono ?_); rintro e w9 ⟨rfl, b9⟩)
              have hb9 := hid (b_call hb10.out b9)
              have hbb9 : bb < w9.heap.size := Nat.lt_of_lt_of_le hbb hb9.out.size
              obtain ⟨dv, c0, c1, c2, rdv, s0, wf⟩ := EFlight.stable _ _ _ _ _ hb9.out hbb he
              have hlw := h9.out
              obtain ⟨a', c', rfl, hle', hmx', hre', hno', hat'⟩ := rdv
              rw [hlw] at c2 hle' hre'
              cases a' with
              | none => have := hno' rfl; omega
              | some ad =>
                have r5 := hid (show RI w9 (.slice (some ad) 5 5) x.waiters from ⟨some ad, 5, by rw [hlw], by omega, by simp [maxLen], by omega, fun h => (by cases h), hat'⟩)
                have hwl : ∀ m ∈ x.waiters ++ [x.leader], (Lit.int .i64 m).wf = true := fun m hm => by
                  rcases List.mem_append.1 hm with hm | hm
                  · exact hfx.out.2.2 m hm
                  · rw [List.mem_singleton] at hm
                    subst hm
                    exact wf
                replace hwl := hid hwl
                have hL6 := hid (show (x.waiters ++ [x.leader]).length = 6 by rw [List.length_append, hlw]; rfl)
                have hrow := hid (reads_i (os_oneI w9.drew w9.heap.size w9.heap.size x.leader rfl (Nat.le_refl _)) (by simp) (fun m hm => by rw [List.mem_singleton] at hm; subst hm; exact wf))
                have hl1 : x.waiters.length ≤ 5 := by omega
                have hc5 : (5 : Int) ≤ (c' : Int) := by omega
                have hc0 : (0 : Int) ≤ 5 := by omega
                have hcc : ¬ c' < 5 := by omega
                clear hlw hno' hat' b9 hff hf3
                go_wp2_with fail
                go_region_held3 (fun w' => w'.cell? ⟨bb, off + i * 3 + 1, none⟩ = some (.int .i64 x.leader) ∧ w'.cell? ⟨bb, off + i * 3 + 2, none⟩ = some (.slice (some ad) 5 c'))
                  (first
                    | go_keep
                    | (go_split_ands
                       refine ⟨?_, ?_⟩ <;> (rw [hgrow.cell_far _ (by simp; omega) (show some bb ≠ none from fun e => by cases e)]; assumption))
                    | fail)
                  ((first
                    | (refine stepL_append_full (o := ⟨some 74, _, _, _, _, _⟩) flat_i (by rfl) (.tmp 67) (.tmp 73) 43 (by rfl) 3 j0 _ Tryz.underlying43 jj0 jz0 jz1 jz2 rfl ad 5 x.waiters h9.out.symm (by rfl) (r5.out.mono EI.stable (b_alloc (Below.refl _ w9).drew _)) (.slice (some ⟨w9.heap.size, 0, none⟩) 1 1) [x.leader] (by simp) (by rfl) hrow.out (by simp; omega) (by simp [maxLen]; omega) ?_
                       intro v10 w10 ho10 hgrow
                       obtain ⟨c10, k10, rfl, -⟩ := OS.len_le ho10)
                    | fail))
                all_goals
                  (have hsz9 := hb9.out.size
                   have hb11 := hid ((b_alloc hb9.out.drew _).grown hgrow (by simp; omega) (fun k hk => by simp at hk))
                   rw [hL6.out] at ho10 ⊢
                   have r10 := hid (reads_i ho10 (by rw [hL6.out]; decide) hwl.out)
                   generalize x.waiters ++ [x.leader] = L at *
                   clear ho10 hgrow r5 hrow hl1 c0 c1 c2 hr10 hO
                   have hL := hL6.out
                   obtain ⟨Ek, hEk⟩ : ∃ f : Nat → Int, ∀ k, f k = if n ∈ L.take k then 6 else 7 := ⟨_, fun _ => rfl⟩
                   have hE0 : Ek 0 = 7 := by rw [hEk]; simp
                   have hE6 := hid (show Ek 6 = if n ∈ L then 6 else 7 by rw [hEk, List.take_of_length_le (by omega)])
                   have hEs := hid (fun (k : Nat) (m : Int) (hm : L[k]? = some m) => (show Ek (k + 1) = if m = n then 6 else Ek k by
                     obtain ⟨hk, rfl⟩ := List.getElem?_eq_some_iff.1 hm
                     rw [hEk, hEk, List.take_succ_eq_append_getElem hk]
                     by_cases h1 : L[k] = n
                     · rw [if_pos h1, if_pos (by rw [h1]; simp)]
                     · rw [if_neg h1]
                       by_cases h2 : n ∈ L.take k
                       · rw [if_pos h2, if_pos (List.mem_append_left _ h2)]
                       · rw [if_neg h2, if_neg (fun h3 => (List.mem_append.1 h3).elim h2 (fun h4 => h1 (List.mem_singleton.1 h4).symm))]))
                   clear hEk
                   replace hL6 := hid hL6.out
                   rw [← hE0]
                   clear hE0
                   go_wp2_with fail
                   go_loopw [13, 15, 76] (fun e13 _ i76 wr => ∃ k : Nat, k ≤ 6 ∧ i76 = .int .i64 (k : Int) ∧ e13 = .int .i64 (Ek k) ∧ wr = w10) (fun _ _ i76 _ => 6 - (intOf i76).toNat)
                   case atStart => exact ⟨0, by omega, rfl, rfl, rfl⟩
                   case round =>
                     obtain ⟨k, hk6, rfl, rfl, rfl⟩ := hrel
                     by_cases hlt : k < 6
                     · have hxk : L[k]? = some L[k] := List.getElem?_eq_getElem (by omega)
                       generalize L[k] = m at *
                       have hs1 := hEs.out k m hxk
                       obtain ⟨b1, o1, rfl, hb1, he1, -⟩ := ri_at r10.out hxk
                       rw [Nat.mul_one] at he1
                       have hk0 : (0 : Int) ≤ (k : Int) := by omega
                       have hk1 : (k : Int) < 6 := by omega
                       have hdk : decide ((k : Int) < (x.waiters.length : Int) + 1) = true := decide_eq_true (by have := h9.out; omega)
                       have hdk2 : ¬ ((x.waiters.length : Int) + 1 ≤ (k : Int)) := by have := h9.out; omega
                       clear hxk hL
                       by_cases hm : m = n
                       · have hq1 : (m == n) = true := by simp [hm]
                         have hr := hid (hs1.trans (if_pos hm))
                         replace hm := hid hm
                         clear hs1
                         go_wp2_with fail
                         go_roundw
                         case rel => exact ⟨k + 1, by omega, by go_num, by rw [hr.out], trivial⟩
                         case measure => simp [intOf]; omega
                       · have hq1 : (m == n) = false := beq_eq_false_iff_ne.2 hm
                         have hr := hid (hs1.trans (if_neg hm))
                         replace hm := hid hm
                         clear hs1
                         go_wp2_with fail
                         go_roundw
                         case rel => exact ⟨k + 1, by omega, by go_num, by rw [hr.out], trivial⟩
                         case measure => simp [intOf]; omega
                     · obtain rfl : k = 6 := by omega
                       have hdk : decide ((6 : Int) < (x.waiters.length : Int) + 1) = false := decide_eq_false (by have := h9.out; omega)
                       have hE := hid (show Ek 6 ≠ 0 by rw [hE6.out]; split <;> decide)
                       have hE2 : (Ek 6 != 0) = true := by simp [hE.out]
                       have hd1 := hid (hd0.out.trans hE6.out.symm)
                       go_wp2_with fail
                       go_ret3
                       exact kO.out _ _ _ hd1.out hE.out hb11.out)
            · rw [if_neg h9] at hff
              have hd0 := hS.out
              rw [if_neg h9] at hd0
              by_cases hin : n ∈ crewOf x
              · rw [if_pos hin] at hff hd0
                replace hin := hid hin
                replace hd0 := hid hd0
                replace hff := hid hff
                go_wp2_with fail
                ((with_reducible refine hff.out.mono ?_); rintro e w9 ⟨rfl, b9⟩)
                have hb9 := hid (b_call hb10.out b9)
                clear b9
                go_wp2_with fail
                go_ret3
                exact kO.out _ _ _ hd0.out (by decide) hb9.out
              · rw [if_neg hin] at hff hd0
                replace hin := hid hin
                replace hd0 := hid hd0
                replace hff := hid hff
                go_wp2_with fail
                ((with_reducible refine hff.out.mono ?_); rintro e w9 ⟨rfl, b9⟩)
                have hb9 := hid (b_call hb10.out b9)
                have ho9 := hid (hf3.out _ b9)
                clear b9
                go_wp2_with fail
                go_ret3
                exact kS.out _ _ _ hd0.out ho9.out.2 ho9.out.1 hb9.out
      · have hsb : someB n = false := by unfold someB; exact decide_eq_false hn
        have hd := hid (joinE_n (s := s) (l := l) hn)
        replace hn := hid hn
        clear hjn hf2
        go_enter Tryz.func67, Tryz.ntmps67
        go_wp2_with fail
        ((with_reducible refine (hch.out _ hR.out).mono ?_); rintro e w1 ⟨rfl, b1⟩)
        go_wp2_with fail
        ((with_reducible refine (hhx.out _).mono ?_); rintro e w2 ⟨rfl, b2⟩)
        go_wp2_with fail
        ((with_reducible refine (ref_someone n _).mono ?_); rintro e w3 ⟨rfl, rfl⟩)
        go_wp2_with fail
        go_ret3
        exact join_no hd.out (by decide) (b_call b1 b2)
    · have ht : (zk != 0) = true := by simp [hk]
      have hd := hid (joinE_k (n := n) (s := s) (l := l) hk)
      replace hk := hid hk
      clear hjn hf2
      go_enter Tryz.func67, Tryz.ntmps67
      go_wp2_with fail
      ((with_reducible refine (hch.out _ hR.out).mono ?_); rintro e w1 ⟨rfl, b1⟩)
      go_wp2_with fail
      ((with_reducible refine (hhx.out _).mono ?_); rintro e w2 ⟨rfl, b2⟩)
      go_wp2_with fail
      go_ret3
      exact join_no hd.out hk.out (b_call b1 b2)
  · have ht : (z != 0) = true := by simp [hz]
    have hd := hid (joinE_z (zk := zk) (n := n) (s := s) (l := l) hz)
    replace hz := hid hz
    clear hjn hf2
    go_enter Tryz.func67, Tryz.ntmps67
    go_wp2_with fail
    ((with_reducible refine (hch.out _ hR.out).mono ?_); rintro e w1 ⟨rfl, b1⟩)
    go_wp2_with fail
    go_ret3
    exact join_no hd.out hz.out b1
end Go.Proofs.YtpcnhldlfmdlhaaGreat
