/-
  What the bound of an '..UptoSaid' statement gives of a store: how many blobs it has, and how many parts its entries have in all.
-/
import Derived.Test.YtojebioolflbkaaBulk
import Derived.Test.YtojebioolflbkaaRtL
namespace Go.Proofs.Ytojebioolflbkaa
open Go.RowKit Go.Deep Go.ChangeShapes Go.WideShapes

theorem bulkAll_sum {H ι : Type} (D : ι → DataW H) (f : ι → Nat) : ∀ L : List ι, (∀ i ∈ L, f i ≤ Rows.uptoBulk (D i)) → (L.map f).sum ≤ Rows.uptoBulkAll (L.map D)
  | [], _ => by simp [Rows.uptoBulkAll]
  | i :: L, h => by
    have h1 := h i List.mem_cons_self
    have h2 := bulkAll_sum D f L (fun j hj => h j (List.mem_cons_of_mem _ hj))
    simp only [List.map_cons, List.sum_cons, Rows.uptoBulkAll]
    omega
theorem map_range {α : Type} (f : α → Nat) : ∀ l : List α, (List.range l.length).map (fun i => (l[i]?.map f).getD 0) = l.map f := fun l => by
  apply List.ext_getElem
  · simp
  · intro i h1 h2
    have hi : i < l.length := by simpa using h2
    simp [List.getElem?_eq_getElem hi]
section
variable {H : Type} {enc : TypeId × Value → H} {P : Program} {w : World}
theorem bulk_entries {n : Nat} {t e pe : TypeId} {f0 f1 f2 f3 : Field} {v : Value} {l : List Entry} {x : DataW H × List MemPlace} (ht : P.underlying t = some (.slice e)) (he : P.underlying e = some (.struct #[f0, f1, f2, f3]))
    (ho : f1.offset = 1) (hc : P.cellsOf e = 4) (hs : P.cellsOf f1.type = 1) (hp : P.underlying f1.type = some (.slice pe)) (hr : RE w v l)
    (h : DataW.trod enc P w 0 (fun _ => true) true n t [v] = some x) : (l.map (fun x => x.parts.length)).sum ≤ Rows.uptoBulk x.1 := by
  rcases open_slice ht h with ⟨hv, rfl⟩ | ⟨a, len, cap, m, n', D, Pl, hv, hb, hl, hm, hmm, rfl, hx⟩
  · simp only [List.cons.injEq, and_true] at hv
    subst hv
    obtain ⟨a, c, hv, -⟩ := hr
    simp only [Value.slice.injEq] at hv
    have : l = [] := List.eq_nil_of_length_eq_zero hv.2.1.symm
    subst this
    simp
  · simp only [List.cons.injEq, and_true] at hv
    subst hv
    simp only [if_true] at hmm
    subst hmm
    obtain ⟨a', c', hv, hlc, _, _, _, hat⟩ := hr
    simp only [Value.slice.injEq] at hv
    obtain ⟨rfl, rfl, rfl⟩ := hv
    have key : ∀ i ∈ List.range l.length, (l[i]?.map (fun x => x.parts.length)).getD 0 ≤ Rows.uptoBulk (D i) := fun i hi => by
      have hi' : i < l.length := List.mem_range.1 hi
      obtain ⟨cs', h1, h2⟩ := hx i (by omega)
      obtain ⟨_, hlen, hcell⟩ := World.cells?_some h1
      have hk : l[i]? = some l[i] := List.getElem?_eq_getElem hi'
      rw [hk]
      generalize l[i] = y at hk
      simp only [Option.map_some, Option.getD_some]
      obtain ⟨b, off, ha, hlt, dv, c0, c1, c2, c3, hd, _⟩ := hat i _ hk
      simp only [Option.some.injEq] at ha
      subst ha
      have g1 := hcell 1 (by omega)
      rw [hc] at g1
      have g2 : cs'[1]? = some dv := by
        rw [← g1, ← c1]
        simp [Addr.add_lit]
      obtain ⟨xs, n2, _, hD, hl2, hlen2, hf⟩ := DataW.trod_struct he h2
      rw [hc] at hl2
      match xs, hlen2, cs', hl2 with
      | [y0, y1, y2, y3], _, [k0, k1, k2, k3], _ =>
        have g := hf 1 f1 rfl
        rw [ho, hs] at g
        simp only [List.getElem?_cons_succ, List.getElem?_cons_zero, Option.some.injEq] at g2
        subst g2
        obtain ⟨pa, pc, rfl, -⟩ := hd
        have hb := bulk_slice (d := y1.1) (ps := y1.2) hp ⟨n2, g⟩
        simp only [Prod.mk.injEq] at hD
        rw [hD.1]
        simp only [List.map_cons, List.map_nil, Rows.uptoBulk, Rows.uptoBulkAll]
        omega
    have h3 := bulkAll_sum D _ _ key
    rw [map_range] at h3
    simp only [Rows.uptoBulk]
    omega
theorem bulk_store {t e eb pe : TypeId} {f0 f1 f2 f3 g0 g1 g2 g3 : Field} {cs : Array Value} {x : Store} {d : DataW H} {ps : List MemPlace} (ht : P.underlying t = some (.struct #[f0, f1, f2, f3]))
    (ho : f0.offset = 0 ∧ f1.offset = 1) (hs : P.cellsOf f0.type = 1 ∧ P.cellsOf f1.type = 1) (hb : P.underlying f0.type = some (.slice eb)) (he : P.underlying f1.type = some (.slice e))
    (ke : P.underlying e = some (.struct #[g0, g1, g2, g3])) (ko : g1.offset = 1) (kc : P.cellsOf e = 4) (ks : P.cellsOf g1.type = 1) (kp : P.underlying g1.type = some (.slice pe))
    (hx : VStore w cs.toList x) (h : DataW.Trod enc P w 0 (fun _ => true) true t (.agg cs) d ps) : bulkN x.blobs x.entries ≤ Rows.uptoBulk d := by
  obtain ⟨n, hn⟩ := h
  obtain ⟨bv, ev, hcs, hB, hE, -⟩ := hx
  have hcc : (Value.agg cs).cells.toList = [bv, ev, .int .i64 x.room, .int .i64 x.clock] := by
    rw [← hcs]
    rfl
  rw [hcc] at hn
  obtain ⟨xs, n2, _, hD, hl2, hlen2, hf⟩ := DataW.trod_struct ht hn
  match xs, hlen2 with
  | [y0, y1, y2, y3], _ =>
    have q0 := hf 0 f0 rfl
    have q1 := hf 1 f1 rfl
    rw [ho.1, hs.1] at q0
    rw [ho.2, hs.2] at q1
    have h1 := bulk_entries (x := y1) he ke ko kc ks kp hE q1
    obtain ⟨ba, bc, rfl, -⟩ := hB
    have h0 := bulk_slice (d := y0.1) (ps := y0.2) hb ⟨n2, q0⟩
    simp only [Prod.mk.injEq] at hD
    rw [hD.1]
    unfold bulkN
    simp only [List.map_cons, List.map_nil, Rows.uptoBulk, Rows.uptoBulkAll]
    omega
end
end Go.Proofs.Ytojebioolflbkaa
