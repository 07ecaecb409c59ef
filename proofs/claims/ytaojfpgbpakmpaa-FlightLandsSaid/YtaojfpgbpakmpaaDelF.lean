/-
  slices.Delete on a full row of records (Flight) that the call owns.
-/
import Derived.Test.YtaojfpgbpakmpaaCpF
import Derived.StillTailTactics
namespace Go.Proofs.Ytaojfpgbpakmpaa
open Go.RowKit

/-- What Delete leaves: the row without place i. -/
def DeletedFlight (l : List Flight) (i B : Nat) (w : World) (e : Ending) (w' : World) : Prop :=
  ∃ c, e = .returned (.slice (some ⟨B, 0, none⟩) (l.length - 1) c) ∧ OFlight w' B (.slice (some ⟨B, 0, none⟩) (l.length - 1) c) (l.take i ++ l.drop (i + 1)) ∧ Below B w w'

set_option maxRecDepth 100000 in
set_option maxHeartbeats 1000000 in
theorem slices_Delete_F (l : List Flight) (i B : Nat) (w : World) (h : OFlight w B (.slice (some ⟨B, 0, none⟩) l.length l.length) l) (hi : i < l.length) (hB : B ≤ w.heap.size) (hbs : l.length * 48 ≤ 140737488351232) :
    Calls Try.prog 101 #[.slice (some ⟨B, 0, none⟩) l.length l.length, .int .i64 i, .int .i64 ((i : Int) + 1)] w (DeletedFlight l i B w) := by
  obtain ⟨i0, hi0, hz0, hz1, hz2⟩ := info_parts info_F
  obtain ⟨rs, rfl, hown, hcs⟩ := h
  simp only [List.length_map] at hi hbs hown ⊢
  unfold DeletedFlight
  rw [List.length_map]
  have hn := (show rs.length ≤ 140737488351232 by omega)
  have hrd : RS 3 48 (ERaw (xc cFlight (·.waiters))) w (.slice (some ⟨B, 0, none⟩) rs.length rs.length) rs := OS.reads (cells := xc cFlight (·.waiters)) xcFlight_len (by decide) (fun b o r _ hc j u hj => by
    have hlt := (List.getElem?_eq_some_iff.1 hj).1
    rw [hc j (by rw [xcFlight_len] at hlt; exact hlt), hj]) hown hbs
  have hfrom := RS.from hrd (i + 1) (by omega)
  have hile : i ≤ rs.length := by omega
  have hie : i + 1 ≤ rs.length := by omega
  obtain ⟨A, hA⟩ : ∃ A, (if rs.length = i + 1 then (some ⟨B, 0, none⟩ : Option Addr) else some ⟨B, (i + 1) * 3, none⟩) = A := ⟨_, rfl⟩
  have hA2 : (if rs.length = i + 1 then (some ⟨B, 0, none⟩ : Option Addr) else (some (⟨B, 0, none⟩ : Addr)).map (·.add ((i + 1) * 3))) = A := by
    rw [← hA]; simp [Addr.add_lit]
  rw [hA2] at hfrom
  have hg0 : (0 : Int) ≤ (i : Int) + 1 := by omega
  have hg1 : (i : Int) + 1 ≤ (rs.length : Int) := by omega
  have hup := hid (hown.upto xcFlight_len i (by omega))
  replace hfrom := hid hfrom
  replace hown := hid hown
  replace hcs := hid hcs
  clear hrd hA2
  go_enter Try.func101, Try.ntmps101
  go_wp2_with fail
  go_still_tail 6, (by kernel_rfl)
  change wpList _ _ _ _ _ w.drew
  replace hup := hid (hup.out.drew)
  replace hfrom := hid (hfrom.out.mono ERaw.stable (Below.refl _ w).drew)
  go_wp2_with (at_builtin; go_must (refine wpL_append_room flat_cFlight (by rfl) (.tmp 22) (.tmp 25) 22 (by rfl) 115 i0 Try.underlying22 hi0 hz1 B B i rs.length (rs.take i) (by rfl) hup.out _ (rs.drop (i + 1)) (by rfl) hfrom.out (by simp; omega) ?_))
  intro w2 ho2 hg2
  obtain ⟨m, hm⟩ : ∃ m, i + (rs.length - (i + 1)) = m := ⟨_, rfl⟩
  have hmn : m + 1 = rs.length := by omega
  rw [hm] at ho2
  have hmn1 : m ≤ rs.length := by omega
  have hmn2 : ¬ rs.length = m := by omega
  have hzv : ∀ w, (zeroValue 115).run Try.prog w = .ok (.agg #[.string ⟨#[]⟩, .int .i64 0, .slice none 0 0]) w := fun w => by simp [zeroValue, typeInfo, hi0, hz0]
  obtain ⟨w3, hcl, ho3, hg3⟩ := clear_own (s := 3) (t := 22) (cells := xc cFlight (·.waiters)) Try.underlying22 hzv rfl (by simp [Value.cells, Value.oneCell']) ho2 (rs.length - m) (rs.length - m) (by omega) (by omega)
  have hG := hg2.size
  have hx := hid (show (rs.take i ++ rs.drop (i + 1)).map (·.x) = (rs.map (·.x)).take i ++ (rs.map (·.x)).drop (i + 1) by simp)
  have hO3 : Hid (OFlight w3 B (.slice (some ⟨B, 0, none⟩) m rs.length) ((rs.map (·.x)).take i ++ (rs.map (·.x)).drop (i + 1))) := hid ⟨rs.take i ++ rs.drop (i + 1), hx.out, ho3, fun q hq => by
    have hq' : q ∈ rs := by
      rcases List.mem_append.1 hq with hq | hq
      · exact List.mem_of_mem_take hq
      · exact List.mem_of_mem_drop hq
    have h1 : CO 3 1 cI B w.drew (q.v (·.waiters)) q.x.waiters := hcs.out q hq'
    have h2 := OS.apart hup.out h1 (by decide) hg2
    exact OS.apart ho2 h2 (by decide) hg3⟩
  have hb3 : Hid (Below B w w3) := hid (((Below.refl B w).drew.grown hg2 hB (fun k hk => by simp at hk; omega)).grown hg3 (Nat.le_trans hB hG) (fun k hk => by simp at hk; omega))
  rw [hm]
  replace hmn := hid hmn
  clear hzv ho2 hg2 ho3 hg3 hup hfrom hcs hown hm hx hA hi0 hz0 hz1 hz2 hile hie hg0 hg1
  go_wp2_with fail
  go_ret
  exact ⟨rs.length, by rw [← hmn.out]; simp, by rw [← hmn.out, Nat.add_sub_cancel, hmn.out]; exact hO3.out, hb3.out⟩
end Go.Proofs.Ytaojfpgbpakmpaa
