/-
  The end of a flight: what the program and the reference answer.
-/
import Derived.Test.YtaojfpgbpakmpaaFltW
import Derived.IntWalk
import Derived.Deep.RegionHeld3
import Derived.StillTactics
import Derived.OwnWalk
namespace Go.Proofs.Ytaojfpgbpakmpaa
open Go.RowKit

theorem flightsFrom_fit {l : List Flight} : ∀ {r : List Flight} {k : Nat}, flightsFrom l k r = 0 → ∀ x ∈ r, x.waiters.length ≤ 5
  | [], _, _ => fun x hx => by cases hx
  | y :: r, k, h => fun x hx => by
    unfold flightsFrom at h
    by_cases h0 : flightFault l k y = 0
    · rw [if_pos h0] at h
      rcases List.mem_cons.1 hx with rfl | hx
      · unfold flightFault at h0
        split at h0
        · rename_i hh; exact absurd h0 hh
        · split at h0
          · cases h0
          · split at h0
            · cases h0
            · omega
      · exact flightsFrom_fit h x hx
    · rw [if_neg h0] at h; exact absurd h h0
theorem flights_fit {l : List Flight} (h : flightsFault l = 0) : ∀ x ∈ l, x.waiters.length ≤ 5 := by
  unfold flightsFault at h
  split at h
  · cases h
  · exact flightsFrom_fit h

/-- What is wrong with the end of a key's flight, z being what is wrong with the list. -/
def endE (z : Int) (s : ByteArray) (l : List Flight) : Int := if z ≠ 0 then z else match l[atKey (·.key) s l]? with | none => 5 | some _ => 0
def endL (z : Int) (s : ByteArray) (l : List Flight) : List Flight := if endE z s l = 0 then l.take (atKey (·.key) s l) ++ l.drop (atKey (·.key) s l + 1) else []
def endW (z : Int) (s : ByteArray) (l : List Flight) : List Int := if endE z s l = 0 then (match l[atKey (·.key) s l]? with | none => [] | some x => crewOf x) else []
theorem drop_F_len (i : Nat) (l : List Flight) (h : l.length * 48 ≤ 140737488351232) : (l.take i ++ l.drop (i + 1)).length * 48 ≤ 140737488351232 := by
  have : (l.take i ++ l.drop (i + 1)).length ≤ l.length := by rw [List.length_append, List.length_take, List.length_drop]; omega
  omega
theorem drop_F_mem (i : Nat) (l : List Flight) (Q : Flight → Prop) (h : ∀ x ∈ l, Q x) : ∀ x ∈ l.take i ++ l.drop (i + 1), Q x := by
  intro x hx
  rcases List.mem_append.1 hx with hx | hx
  · exact h x (List.mem_of_mem_take hx)
  · exact h x (List.mem_of_mem_drop hx)

def EndPost (z : Int) (s : ByteArray) (l : List Flight) (w : World) (e : Ending) (w' : World) : Prop :=
  ∃ v1 v2, e = .returned (.tuple #[v1, v2, .int .i64 (endE z s l)]) ∧ RF w' v1 (endL z s l) ∧ RI w' v2 (endW z s l) ∧ Below w.heap.size w w'
theorem end_no {z n : Int} {s : ByteArray} {l : List Flight} {w w' : World} (h : endE z s l = n) (hn : n ≠ 0) (hb : Below w.heap.size w w') : EndPost z s l w (.returned (.tuple #[.slice none 0 0, .slice none 0 0, .int .i64 n])) w' := by
  refine ⟨_, _, by rw [h], ?_, ?_, hb⟩
  · unfold endL
    rw [if_neg (by rw [h]; exact hn)]
    exact RS.nil
  · unfold endW
    rw [if_neg (by rw [h]; exact hn)]
    exact RS.nil
theorem end_ok {z : Int} {s : ByteArray} {l L : List Flight} {C : List Int} {w w' : World} {v1 v2 : Value} (h : endE z s l = 0) (hl : endL z s l = L) (hc : endW z s l = C) (hr : RF w' v1 L) (hr2 : RI w' v2 C) (hb : Below w.heap.size w w') : EndPost z s l w (.returned (.tuple #[v1, v2, .int .i64 0])) w' :=
  ⟨_, _, by rw [h], by rw [hl]; exact hr, by rw [hc]; exact hr2, hb⟩

set_option maxRecDepth 100000 in
set_option maxHeartbeats 1000000 in
theorem flight_End (v : Value) (l : List Flight) (s : ByteArray) (w : World) (h : RF w v l) (z : Int) (hw : z = 0 → ∀ x ∈ l, x.waiters.length ≤ 5)
    (hch : ∀ w, RF w v l → Calls Try.prog 23 #[v] w fun e w' => e = .returned (.int .i64 z) ∧ Below w.heap.size w w') :
    Calls Try.prog 29 #[v, .string s] w (EndPost z s l w) := by
  replace hch := hid hch
  have hR := hid h
  obtain ⟨a, c, rfl, hlc, hcm, hre, hno, hat⟩ := h
  unfold maxLen at hcm
  clear hno
  by_cases hz : z = 0
  · subst hz
    have hsh := hw rfl
    have hle := atKey_le (fun x : Flight => x.key) s l
    have hfi : findI (fun x : Flight => x.key) s l = if atKey (fun x : Flight => x.key) s l = l.length then 0 else (atKey (fun x : Flight => x.key) s l : Int) := rfl
    have hfe : findE (fun x : Flight => x.key) s l = if atKey (fun x : Flight => x.key) s l = l.length then 5 else 0 := rfl
    have hd0 := hid (show endE 0 s l = match l[atKey (fun x : Flight => x.key) s l]? with | none => 5 | some _ => 0 from rfl)
    have hdl := hid (fun h0 : endE 0 s l = 0 => show endL 0 s l = l.take (atKey (fun x : Flight => x.key) s l) ++ l.drop (atKey (fun x : Flight => x.key) s l + 1) from if_pos h0)
    have hdw := hid (fun h0 : endE 0 s l = 0 => show endW 0 s l = (match l[atKey (fun x : Flight => x.key) s l]? with | none => [] | some x => crewOf x) from if_pos h0)
    generalize atKey (fun x : Flight => x.key) s l = i at *
    by_cases hi : i = l.length
    · have hd : Hid (endE 0 s l = 5) := hid (by rw [hd0.out, List.getElem?_eq_none (by omega)])
      rw [if_pos hi] at hfi hfe
      replace hfi := hid hfi
      replace hfe := hid hfe
      replace hi := hid hi
      go_enter Try.func29, Try.ntmps29
      go_wp2_with fail
      ((with_reducible refine (hch.out _ hR.out).mono ?_); rintro e w1 ⟨rfl, b1⟩)
      go_wp2_with fail
      have hF := flight_Find _ l s w1 (hR.out.mono EFlight.stable b1)
      rw [hfi.out, hfe.out] at hF
      ((with_reducible refine hF.mono ?_); rintro e w2 ⟨rfl, b2⟩)
      go_wp2_with fail
      go_ret3
      exact end_no hd.out (by decide) (b_call b1 b2)
    · have hx : l[i]? = some l[i] := List.getElem?_eq_getElem (by omega)
      generalize l[i] = x at hx
      obtain ⟨bb, off, rfl, hbb, he⟩ := hat _ _ hx
      rw [if_neg hi] at hfi hfe
      have hilt : i < l.length := by omega
      have hd : Hid (endE 0 s l = 0) := hid (by rw [hd0.out, hx])
      have hdw1 : Hid (endW 0 s l = crewOf x) := hid (by rw [hdw.out hd.out, hx])
      replace hfi := hid hfi
      replace hfe := hid hfe
      have hfit := hid (fit_F hR.out)
      have hx5 := hsh x (List.mem_of_getElem? hx)
      clear hx hat hd0 hdw hsh
      go_enter Try.func29, Try.ntmps29
      go_wp2_with fail
      ((with_reducible refine (hch.out _ hR.out).mono ?_); rintro e w1 ⟨rfl, b1⟩)
      go_wp2_with fail
      have hF := flight_Find _ l s w1 (hR.out.mono EFlight.stable b1)
      rw [hfi.out, hfe.out] at hF
      ((with_reducible refine hF.mono ?_); rintro e w2 ⟨rfl, b2⟩)
      have hb2 := hid (b_call b1 b2)
      have he2 := EFlight.stable _ _ _ _ _ hb2.out hbb he
      have hbb2 : bb < w2.heap.size := Nat.lt_of_lt_of_le hbb hb2.out.size
      obtain ⟨dv, c0, c1, c2, rdv, s0, wf⟩ := id he2
      have hwl := hid (ri_wf rdv)
      obtain ⟨da, dc, rfl, -⟩ := id rdv
      replace rdv := hid rdv
      replace he2 := hid he2
      clear b1 b2 hF he
      have hi0 : (0 : Int) ≤ (i : Int) := by omega
      have hi1 : (i : Int) < (l.length : Int) := by omega
      have g1 : IntKind.i64.wrap ((i : Int) + 1) = (i : Int) + 1 := IntWalk.i64_in _ (by omega)
      have hR2 := hid (hR.out.mono EFlight.stable hb2.out)
      have hC3 := hid (flight_Copy _ l w2.drew (hR2.out.mono EFlight.stable (Below.refl _ w2).drew))
      have hS : w2.cell? ⟨bb, off + i * 3, none⟩ = some (.string x.key) ∧ w2.cell? ⟨bb, off + i * 3 + 1, none⟩ = some (.int .i64 x.leader) ∧ w2.cell? ⟨bb, off + i * 3 + 2, none⟩ = some (.slice da x.waiters.length dc) := ⟨c0, c1, c2⟩
      go_wp2_with fail
      clear hch
      go_region_held3 (fun w' => w'.cell? ⟨bb, off + i * 3, none⟩ = some (.string x.key) ∧ w'.cell? ⟨bb, off + i * 3 + 1, none⟩ = some (.int .i64 x.leader) ∧ w'.cell? ⟨bb, off + i * 3 + 2, none⟩ = some (.slice da x.waiters.length dc))
        (first | go_keep | exact hS5 | exact hS4 | exact hS3 | exact hS | fail)
        ((first
          | ((with_reducible refine hC3.out.mono ?_)
             rintro e w3 ⟨rfl, o3', b3⟩
             have o3 : OFlight w3 w2.heap.size (.slice (some ⟨w2.heap.size, 0, none⟩) l.length l.length) l := o3'
             have hs3 : w2.heap.size ≤ w3.heap.size := b3.size
             have hb3 := hid (b_call (Below.refl _ w2).drew b3)
             have hS3 : w3.cell? ⟨bb, off + i * 3, none⟩ = some (.string x.key) ∧ w3.cell? ⟨bb, off + i * 3 + 1, none⟩ = some (.int .i64 x.leader) ∧ w3.cell? ⟨bb, off + i * 3 + 2, none⟩ = some (.slice da x.waiters.length dc) := ⟨cell_stays hb3.out hbb2 c0, cell_stays hb3.out hbb2 c1, cell_stays hb3.out hbb2 c2⟩)
          | ((with_reducible refine (slices_Delete_F l i w2.heap.size w3 o3 hilt hs3 (by omega)).mono ?_)
             rintro e w4 ⟨cc, rfl, o4, b4⟩
             have hb4 := hid (hb3.out.trans b4)
             have hS4 : w4.cell? ⟨bb, off + i * 3, none⟩ = some (.string x.key) ∧ w4.cell? ⟨bb, off + i * 3 + 1, none⟩ = some (.int .i64 x.leader) ∧ w4.cell? ⟨bb, off + i * 3 + 2, none⟩ = some (.slice da x.waiters.length dc) := ⟨cell_stays hb4.out hbb2 c0, cell_stays hb4.out hbb2 c1, cell_stays hb4.out hbb2 c2⟩)
          | ((with_reducible refine (flight_crew x _ w4 (rdv.out.mono EI.stable hb4.out)).mono ?_)
             rintro e w5 ⟨v5, rfl, o5, b5⟩
             have hb5 := hid (b_call hb4.out b5)
             have hS5 : w5.cell? ⟨bb, off + i * 3, none⟩ = some (.string x.key) ∧ w5.cell? ⟨bb, off + i * 3 + 1, none⟩ = some (.int .i64 x.leader) ∧ w5.cell? ⟨bb, off + i * 3 + 2, none⟩ = some (.slice da x.waiters.length dc) := ⟨cell_stays hb5.out hbb2 c0, cell_stays hb5.out hbb2 c1, cell_stays hb5.out hbb2 c2⟩)
          | fail))
      have r4 := hid ((o4.toR (drop_F_len _ _ hre) (drop_F_mem _ _ _ hfit.out)).mono EFlight.stable b5)
      have r5 : Hid (RI w5 v5 (crewOf x)) := hid (reads_i o5 (by show (x.waiters.length + 1) * 8 ≤ _; omega) (fun n hn => by
        rcases List.mem_cons.1 hn with rfl | hn
        · exact wf
        · exact hwl.out n hn))
      have hb6 := hid (hb2.out.trans (hb5.out.mono hb2.out.size))
      clear o3 o3' o4 o5 b3 b4 b5 hS hS3 hS4 hS5 c0 c1 c2
      go_wp2_with fail
      go_ret3
      exact end_ok hd.out (hdl.out hd.out) hdw1.out r4.out r5.out hb6.out
  · have ht : (z != 0) = true := by simp [hz]
    have hd : Hid (endE z s l = z) := hid (if_pos hz)
    replace hz := hid hz
    go_enter Try.func29, Try.ntmps29
    go_wp2_with fail
    ((with_reducible refine (hch.out _ hR.out).mono ?_); rintro e w1 ⟨rfl, b1⟩)
    go_wp2_with fail
    go_ret3
    exact end_no hd.out hz.out b1

set_option maxRecDepth 100000 in
set_option maxHeartbeats 1000000 in
theorem ref_FlightEnded (v : Value) (l : List Flight) (s : ByteArray) (w : World) (h : RF w v l) (z : Int) (hw : z = 0 → ∀ x ∈ l, x.waiters.length ≤ 5)
    (hch : ∀ w, RF w v l → Calls Try.prog 26 #[v] w fun e w' => e = .returned (.int .i64 z) ∧ Below w.heap.size w w') :
    Calls Try.prog 30 #[v, .string s] w (EndPost z s l w) := by
  obtain ⟨i0, ii0, hz0, hz1, hz2⟩ := info_parts info_F
  obtain ⟨j0, jj0, hy0, hy1, hy2⟩ := info_parts info_int
  replace hch := hid hch
  have hR := hid h
  obtain ⟨a, c, rfl, hlc, hcm, hre, hno, hat⟩ := h
  unfold maxLen at hcm
  clear hno
  by_cases hz : z = 0
  · subst hz
    have hsh := hw rfl
    have hle := atKey_le (fun x : Flight => x.key) s l
    have hAt := hid (fun w g => ref_FlightAt (.slice a l.length c) l s w g)
    have hd0 := hid (show endE 0 s l = match l[atKey (fun x : Flight => x.key) s l]? with | none => 5 | some _ => 0 from rfl)
    have hdl := hid (fun h0 : endE 0 s l = 0 => show endL 0 s l = l.take (atKey (fun x : Flight => x.key) s l) ++ l.drop (atKey (fun x : Flight => x.key) s l + 1) from if_pos h0)
    have hdw := hid (fun h0 : endE 0 s l = 0 => show endW 0 s l = (match l[atKey (fun x : Flight => x.key) s l]? with | none => [] | some x => crewOf x) from if_pos h0)
    generalize atKey (fun x : Flight => x.key) s l = i at *
    by_cases hi : i = l.length
    · have hd : Hid (endE 0 s l = 5) := hid (by rw [hd0.out, List.getElem?_eq_none (by omega)])
      subst hi
      have q1 : ((l.length : Int) == (l.length : Int)) = true := by simp
      go_enter Try.func30, Try.ntmps30
      go_wp2_with fail
      ((with_reducible refine (hch.out _ hR.out).mono ?_); rintro e w1 ⟨rfl, b1⟩)
      go_wp2_with fail
      ((with_reducible refine (hAt.out _ (hR.out.mono EFlight.stable b1)).mono ?_); rintro e w2 ⟨rfl, rfl⟩)
      go_wp2_with fail
      go_ret3
      exact end_no hd.out (by decide) b1
    · have hx : l[i]? = some l[i] := List.getElem?_eq_getElem (by omega)
      generalize l[i] = x at hx
      obtain ⟨bb, off, rfl, hbb, he⟩ := hat _ _ hx
      have hilt : i < l.length := by omega
      have hd : Hid (endE 0 s l = 0) := hid (by rw [hd0.out, hx])
      have hdw1 : Hid (endW 0 s l = crewOf x) := hid (by rw [hdw.out hd.out, hx])
      have q1 : ((i : Int) == (l.length : Int)) = false := by simp; omega
      have hfit := hid (fit_F hR.out)
      have hx5 := hsh x (List.mem_of_getElem? hx)
      clear hx hat hd0 hdw hsh
      go_enter Try.func30, Try.ntmps30
      go_wp2_with fail
      ((with_reducible refine (hch.out _ hR.out).mono ?_); rintro e w1 ⟨rfl, b1⟩)
      go_wp2_with fail
      ((with_reducible refine (hAt.out _ (hR.out.mono EFlight.stable b1)).mono ?_); rintro e w2 ⟨rfl, rfl⟩)
      have hb2 := hid b1
      obtain ⟨dv, c0, c1, c2, rdv, s0, wf⟩ := EFlight.stable _ _ _ _ _ hb2.out hbb he
      have hwl := hid (ri_wf rdv)
      obtain ⟨da, dc, rfl, -⟩ := id rdv
      replace rdv := hid rdv
      clear b1 he
      have hi0 : (0 : Int) ≤ (i : Int) := by omega
      have hi1 : (i : Int) < (l.length : Int) := by omega
      have hS : w1.cell? ⟨bb, off + i * 3, none⟩ = some (.string x.key) ∧ w1.cell? ⟨bb, off + i * 3 + 1, none⟩ = some (.int .i64 x.leader) ∧ w1.cell? ⟨bb, off + i * 3 + 2, none⟩ = some (.slice da x.waiters.length dc) := ⟨c0, c1, c2⟩
      have hbb1 : bb < w1.heap.size := Nat.lt_of_lt_of_le hbb hb2.out.size
      go_wp2_with fail
      go_region_held3 (fun w' => w'.cell? ⟨bb, off + i * 3, none⟩ = some (.string x.key) ∧ w'.cell? ⟨bb, off + i * 3 + 1, none⟩ = some (.int .i64 x.leader) ∧ w'.cell? ⟨bb, off + i * 3 + 2, none⟩ = some (.slice da x.waiters.length dc))
        (first | go_keep | exact hS | exact hS4 | fail)
        ((first
          | (refine stepL_append (o := ⟨some 33, _, _, _, _, _⟩) (l := [x.leader]) (m := x.waiters) (B := w1.heap.size) flat_i (by rfl) (.tmp 27) (.tmp 32) 31 (by rfl) 3 j0 _ Try.underlying31 jj0 hy0 hy1 hy2 rfl _ (by rfl) (OS.drew (os_oneI w1 w1.heap.size _ _ rfl (Nat.le_refl _))) _ (by rfl) (rdv.out.mono EI.stable (b_alloc (Below.refl _ w1) _).drew) (by simp; omega) (by simp [maxLen]; omega) (by simp) ?_; intro v4 w4 o4 hg4
             have hb24 := hid (b_grown (b_alloc (Below.refl w1.heap.size w1) (Obj.cells #[.int .i64 x.leader] 3)).drew hg4 (fun k hk => by simp [Value.ownBlock] at hk; omega))
             have hS4 : w4.cell? ⟨bb, off + i * 3, none⟩ = some (.string x.key) ∧ w4.cell? ⟨bb, off + i * 3 + 1, none⟩ = some (.int .i64 x.leader) ∧ w4.cell? ⟨bb, off + i * 3 + 2, none⟩ = some (.slice da x.waiters.length dc) := ⟨cell_stays hb24.out hbb1 c0, cell_stays hb24.out hbb1 c1, cell_stays hb24.out hbb1 c2⟩)
          | fail))
      replace o4 : OS 3 1 cI w4 w1.heap.size v4 (crewOf x) := o4
      have hb4 := hid (hb2.out.trans (hb24.out.mono hb2.out.size))
      have r4 : Hid (RI w4 v4 (crewOf x)) := hid (reads_i o4 (by show (x.waiters.length + 1) * 8 ≤ _; omega) (fun n hn => by
        rcases List.mem_cons.1 hn with rfl | hn
        · exact wf
        · exact hwl.out n hn))
      obtain ⟨a4, k4, rfl, -⟩ := id (OS.len_le o4)
      clear o4 hg4 hb24 c0 c1 c2 rdv wf hS hS4
      obtain ⟨A, hA⟩ : ∃ A, (if c = i + 1 then (some ⟨bb, off, none⟩ : Option Addr) else some ⟨bb, off + (i + 1) * 3, none⟩) = A := ⟨_, rfl⟩
      have hR1 := hR.out.mono EFlight.stable hb4.out
      have hup := hid (RS.upto hR1 i (by omega))
      have hfrom := RS.from hR1 (i + 1) (by omega)
      rw [show (if c = i + 1 then (some ⟨bb, off, none⟩ : Option Addr) else (some (⟨bb, off, none⟩ : Addr)).map (·.add ((i + 1) * 3))) = A by rw [← hA]; simp [Addr.add_lit]] at hfrom
      replace hfrom := hid hfrom
      have g1 : (0 : Int) ≤ (i : Int) + 1 := by omega
      have g2 : (i : Int) + 1 ≤ (l.length : Int) := by omega
      have g3 : i ≤ c := by omega
      have g4 : i + 1 ≤ l.length := by omega
      have g5 : IntKind.i64.wrap ((i : Int) + 1) = (i : Int) + 1 := IntWalk.i64_in _ (by omega)
      have g6 : ((i : Int) + 1).toNat = i + 1 := by omega
      have hsz := hb4.out.size
      go_wp2_with fail
      clear hR1 hch hAt q1
      go_region_held3 (fun w' => True) (first | go_keep | exact trivial)
        ((first
          | ((with_reducible refine (ref_FlightsCopy (.slice (some ⟨bb, off, none⟩) i c) (l.take i) _ (hup.out.mono EFlight.stable (Below.refl _ w4).drew)).mono ?_)
             rintro e wa ⟨va, rfl, ⟨ra, hra, oa, ca⟩, ba⟩
             obtain ⟨aa, ka, rfl, -⟩ := id (OS.len_le oa)
             have ba1 : Below w4.heap.size w4 wa := b_call (Below.refl _ w4).drew ba
             have hfrom2 := hid (hfrom.out.mono EFlight.stable ba1))
          | ((with_reducible refine (ref_FlightsCopy (.slice A (l.length - (i + 1)) (c - (i + 1))) (l.drop (i + 1)) _ hfrom2.out).mono ?_)
             rintro e wb ⟨vb, rfl, ⟨rb, hrb, ob, cb⟩, bb2⟩
             obtain ⟨ab, kb, rfl, -⟩ := id (OS.len_le ob)
             have hla : ra.length ≤ i := (by have := congrArg List.length hra; simp at this; omega)
             have hlb : rb.length ≤ l.length - (i + 1) := (by have := congrArg List.length hrb; simp at this; omega)
             have hob := hid (OS.reads (cells := xc cFlight (·.waiters)) (bs := 48) (E := ERaw (xc cFlight (·.waiters))) xcFlight_len (by decide) (fun b o r _ hc j u hj => (by
               have hlt := (List.getElem?_eq_some_iff.1 hj).1
               rw [hc j (by rw [xcFlight_len] at hlt; exact hlt), hj])) ob (by omega))
             have hs1 : w4.heap.size ≤ wa.heap.size := ba.size
             have hs2 : wa.heap.size ≤ wb.heap.size := bb2.size)
          | (refine stepL_append (o := ⟨some 43, _, _, _, _, _⟩) (l := ra) (m := rb) (B := w4.heap.size) flat_cFlight (by rfl) (.tmp 37) (.tmp 42) 22 (by rfl) 115 i0 _ Try.underlying22 ii0 hz0 hz1 hz2 rfl _ (by rfl) (OS.below oa bb2) _ (by rfl) hob.out (by omega) (by simp [maxLen]; omega) (by omega) ?_; intro v3 w6 hown3 hgrow; obtain ⟨a3, k3, rfl, -⟩ := id (OS.len_le hown3))
          | fail))
      have hO3 := OX.join (e' := 3) hown3 hgrow (OS.below oa bb2) (by decide) (fun q hq => CO.below bb2 _ _ (ca q hq)) (fun q hq => OS.mono (cb q hq) hs1)
      rw [hra, hrb] at hO3
      have hO4 : Hid (OFlight w6 w4.heap.size (.slice a3 (ra ++ rb).length k3) (l.take i ++ l.drop (i + 1))) := hid hO3
      have hb46 := hid (Below.grown (b_call ba1 bb2) hgrow (by omega) (fun k hk => OS.block oa k hk))
      have hb6 := hid (hb4.out.trans (hb46.out.mono hsz))
      have r6 := hid (r4.out.mono EI.stable hb46.out)
      simp only [List.length_append] at hO4
      clear hO3 hown3 hgrow oa ob bb2 ba ba1 ca cb hra hrb hob hfrom2 hfrom hup
      go_wp2_with fail
      go_ret3
      exact end_ok hd.out (hdl.out hd.out) hdw1.out (hO4.out.toR (drop_F_len _ _ hre) (drop_F_mem _ _ _ hfit.out)) r6.out hb6.out
  · have ht : (z != 0) = true := by simp [hz]
    have hd : Hid (endE z s l = z) := hid (if_pos hz)
    replace hz := hid hz
    go_enter Try.func30, Try.ntmps30
    go_wp2_with fail
    ((with_reducible refine (hch.out _ hR.out).mono ?_); rintro e w1 ⟨rfl, b1⟩)
    go_wp2_with fail
    go_ret3
    exact end_no hd.out hz.out b1
end Go.Proofs.Ytaojfpgbpakmpaa
