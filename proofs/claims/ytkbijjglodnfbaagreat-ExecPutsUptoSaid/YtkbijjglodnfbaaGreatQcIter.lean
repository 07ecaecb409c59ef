import Derived.Shelf.SlIter.Nil
import Derived.Shelf.SortM.Plain
import Derived.Shelf.SortM.SortNone
import Derived.Ground.GgzProg
import Derived.Ground.SlgmProg
import Derived.Test.YtkbijjglodnfbaaGreatProg
namespace Go.Proofs
open Go.Shelf
theorem qiter_1 {P : Prop} (h : P := by kernel_rfl) : P := h
def Tryz.keys195_ren : Go.Shelf.Ren := ⟨fun | 7 => 195 | 10 => 234 | n => n, fun | 23 => 196 | 26 => 9 | 3 => 4 | 28 => 199 | 0 => 0 | 27 => 198 | 33 => 153 | 4 => 4 | n => n, fun | n => n⟩
theorem Tryz.keys195 : Go.Proofs.SlLaysZ.n7 Tryz.prog Tryz.keys195_ren := {
 mixed := by kernel_rfl
 f7 := ⟨Tryz.f195.name, by decide, Tryz.func195.trans (congrArg some qiter_1)⟩
 f10 := ⟨Tryz.f234.name, by decide, Tryz.func234.trans (congrArg some qiter_1)⟩
 t0 := Tryz.underlying0
 a0 := Tryz.isAgg0
 z0 := Tryz.sizeOf0
 v0 := Tryz.zeroValue0
 t4 := Tryz.underlying4
 a4 := Tryz.isAgg4
 z4 := Tryz.sizeOf4
 v4 := Tryz.zeroValue4
 t23 := Tryz.underlying196
 a23 := Tryz.isAgg196
 z23 := Tryz.sizeOf196
 v23 := Tryz.zeroValue196
 t26 := Tryz.underlying9
 a26 := Tryz.isAgg9
 z26 := Tryz.sizeOf9
 v26 := Tryz.zeroValue9
 t27 := Tryz.underlying198
 a27 := Tryz.isAgg198
 z27 := Tryz.sizeOf198
 v27 := Tryz.zeroValue198
 t28 := Tryz.underlying199
 a28 := Tryz.isAgg199
 z28 := Tryz.sizeOf199
 v28 := Tryz.zeroValue199
 t33 := Tryz.underlying153
 a33 := Tryz.isAgg153
 z33 := Tryz.sizeOf153
 v33 := Tryz.zeroValue153 }
def Tryz.sorted194_ren : Go.Shelf.Ren := ⟨fun | 6 => 194 | 8 => 233 | 9 => 184 | 11 => 267 | 13 => 225 | 12 => 224 | 23 => 255 | 24 => 256 | 14 => 246 | 15 => 247 | 16 => 248 | 17 => 249 | 18 => 250 | 19 => 251 | 20 => 252 | 21 => 253 | 22 => 254 | 25 => 277 | 26 => 278 | 27 => 279 | 28 => 280 | 29 => 281 | 30 => 282 | 31 => 293 | n => n, fun | 26 => 9 | 28 => 199 | 24 => 26 | 0 => 0 | 3 => 3 | 37 => 232 | 48 => 262 | 50 => 264 | 4 => 4 | 40 => 255 | 39 => 254 | 45 => 212 | 5 => 5 | 9 => 9 | 51 => 279 | 55 => 283 | 57 => 291 | 58 => 292 | 33 => 153 | n => n, fun | n => n⟩
theorem Tryz.sorted194 : Go.Proofs.SlLaysZ.n6 Tryz.prog Tryz.sorted194_ren := {
 mixed := by kernel_rfl
 f6 := ⟨Tryz.f194.name, by decide, Tryz.func194.trans (congrArg some qiter_1)⟩
 f8 := ⟨Tryz.f233.name, by decide, Tryz.func233.trans (congrArg some qiter_1)⟩
 f11 := ⟨Tryz.f267.name, by decide, Tryz.func267.trans (congrArg some qiter_1)⟩
 t0 := Tryz.underlying0
 a0 := Tryz.isAgg0
 z0 := Tryz.sizeOf0
 v0 := Tryz.zeroValue0
 t24 := Tryz.underlying26
 a24 := Tryz.isAgg26
 z24 := Tryz.sizeOf26
 v24 := Tryz.zeroValue26
 t26 := Tryz.underlying9
 a26 := Tryz.isAgg9
 z26 := Tryz.sizeOf9
 v26 := Tryz.zeroValue9
 t28 := Tryz.underlying199
 a28 := Tryz.isAgg199
 z28 := Tryz.sizeOf199
 v28 := Tryz.zeroValue199
 i26 := by kernel_rfl }
def Tryz.sort184_ren : Go.Shelf.Ren := ⟨fun | 6 => 184 | 8 => 225 | 9 => 224 | 19 => 255 | 20 => 256 | 21 => 246 | 22 => 247 | 23 => 248 | 24 => 249 | 25 => 250 | 26 => 251 | 27 => 252 | 28 => 253 | 29 => 254 | 36 => 277 | 31 => 278 | 32 => 279 | 37 => 280 | 38 => 281 | 39 => 282 | 41 => 293 | n => n, fun | 27 => 26 | 29 => 9 | 3 => 3 | 32 => 232 | 26 => 26 | 0 => 0 | 44 => 262 | 46 => 264 | 4 => 4 | 36 => 255 | 35 => 254 | 41 => 212 | 5 => 5 | 9 => 9 | 53 => 279 | 57 => 283 | 63 => 291 | 64 => 292 | n => n, fun | n => n⟩
theorem Tryz.sort184 : Go.Proofs.SlLaysM.n6 Tryz.prog Tryz.sort184_ren := {
 mixed := by kernel_rfl
 f6 := ⟨Tryz.f184.name, by decide, Tryz.func184.trans (congrArg some qiter_1)⟩
 f8 := Tryz.func225.trans (congrArg some qiter_1)
 f9 := ⟨Tryz.f224.name, by decide, Tryz.func224.trans (congrArg some qiter_1)⟩
 f19 := Tryz.func255.trans (congrArg some qiter_1)
 f20 := Tryz.func256.trans (congrArg some qiter_1)
 f21 := ⟨Tryz.f246.name, by decide, Tryz.func246.trans (congrArg some qiter_1)⟩
 f22 := ⟨Tryz.f247.name, by decide, Tryz.func247.trans (congrArg some qiter_1)⟩
 f23 := ⟨Tryz.f248.name, by decide, Tryz.func248.trans (congrArg some qiter_1)⟩
 f24 := ⟨Tryz.f249.name, by decide, Tryz.func249.trans (congrArg some qiter_1)⟩
 f25 := ⟨Tryz.f250.name, by decide, Tryz.func250.trans (congrArg some qiter_1)⟩
 f26 := ⟨Tryz.f251.name, by decide, Tryz.func251.trans (congrArg some qiter_1)⟩
 f27 := ⟨Tryz.f252.name, by decide, Tryz.func252.trans (congrArg some qiter_1)⟩
 f28 := ⟨Tryz.f253.name, by decide, Tryz.func253.trans (congrArg some qiter_1)⟩
 f29 := ⟨Tryz.f254.name, by decide, Tryz.func254.trans (congrArg some qiter_1)⟩
 f31 := Tryz.func278.trans (congrArg some qiter_1)
 f32 := Tryz.func279.trans (congrArg some qiter_1)
 f36 := ⟨Tryz.f277.name, by decide, Tryz.func277.trans (congrArg some qiter_1)⟩
 f37 := ⟨Tryz.f280.name, by decide, Tryz.func280.trans (congrArg some qiter_1)⟩
 f38 := ⟨Tryz.f281.name, by decide, Tryz.func281.trans (congrArg some qiter_1)⟩
 f39 := ⟨Tryz.f282.name, by decide, Tryz.func282.trans (congrArg some qiter_1)⟩
 f41 := ⟨Tryz.f293.name, by decide, Tryz.func293.trans (congrArg some qiter_1)⟩
 t0 := Tryz.underlying0
 a0 := Tryz.isAgg0
 z0 := Tryz.sizeOf0
 v0 := Tryz.zeroValue0
 t3 := Tryz.underlying3
 a3 := Tryz.isAgg3
 z3 := Tryz.sizeOf3
 v3 := Tryz.zeroValue3
 t4 := Tryz.underlying4
 a4 := Tryz.isAgg4
 z4 := Tryz.sizeOf4
 v4 := Tryz.zeroValue4
 t5 := Tryz.underlying5
 a5 := Tryz.isAgg5
 z5 := Tryz.sizeOf5
 v5 := Tryz.zeroValue5
 t9 := Tryz.underlying9
 a9 := Tryz.isAgg9
 z9 := Tryz.sizeOf9
 v9 := Tryz.zeroValue9
 t26 := Tryz.underlying26
 a26 := Tryz.isAgg26
 z26 := Tryz.sizeOf26
 v26 := Tryz.zeroValue26
 t27 := Tryz.underlying26
 a27 := Tryz.isAgg26
 z27 := Tryz.sizeOf26
 v27 := Tryz.zeroValue26
 t29 := Tryz.underlying9
 a29 := Tryz.isAgg9
 z29 := Tryz.sizeOf9
 v29 := Tryz.zeroValue9
 t32 := Tryz.underlying232
 a32 := Tryz.isAgg232
 z32 := Tryz.sizeOf232
 v32 := Tryz.zeroValue232
 t35 := Tryz.underlying254
 a35 := Tryz.isAgg254
 z35 := Tryz.sizeOf254
 v35 := Tryz.zeroValue254
 t36 := Tryz.underlying255
 a36 := Tryz.isAgg255
 z36 := Tryz.sizeOf255
 v36 := Tryz.zeroValue255
 t41 := Tryz.underlying212
 a41 := Tryz.isAgg212
 z41 := Tryz.sizeOf212
 v41 := Tryz.zeroValue212
 t44 := Tryz.underlying262
 a44 := Tryz.isAgg262
 z44 := Tryz.sizeOf262
 v44 := Tryz.zeroValue262
 t46 := Tryz.underlying264
 a46 := Tryz.isAgg264
 z46 := Tryz.sizeOf264
 v46 := Tryz.zeroValue264
 t53 := Tryz.underlying279
 a53 := Tryz.isAgg279
 z53 := Tryz.sizeOf279
 v53 := Tryz.zeroValue279
 t57 := Tryz.underlying283
 a57 := Tryz.isAgg283
 z57 := Tryz.sizeOf283
 v57 := Tryz.zeroValue283
 t63 := Tryz.underlying291
 a63 := Tryz.isAgg291
 z63 := Tryz.sizeOf291
 v63 := Tryz.zeroValue291
 t64 := Tryz.underlying292
 a64 := Tryz.isAgg292
 z64 := Tryz.sizeOf292
 v64 := Tryz.zeroValue292 }
open Go.RowKit Go.Maps Go.Sort Go.Shelf in
theorem Tryz.sorts194 (m : Nat) : AnyZ.SortsIn Tryz.prog Tryz.sorted194_ren Fence.wide m :=
 ⟨fun blk off cap ss W hH hblk hsz => callsIn_wide.2 (AnyM.slices_Sort_string Tryz.sort184 blk off cap ss W hH hblk hsz),
  fun p cap W => callsIn_wide.2 (AnyM.slices_Sort_string_none Tryz.sort184 p cap W)⟩
open Go.RowKit Go.Maps Go.Sort Go.Shelf in
theorem Tryz.maps_Keys_195 (mb : Option Nat) (W : World) : CallsIn Fence.wide 5 Tryz.prog 195 #[.map mb] W fun e w' => e = .returned (.func (.func 234) #[] #[.pointer (some ⟨W.heap.size, 0, none⟩)]) ∧ w' = W.alloc (.cells #[.map mb] 196) :=
 AnyZ.keys_in Tryz.keys195 Fence.wide 5 trivial rfl mb W
open Go.RowKit Go.Maps Go.Sort Go.Shelf in
theorem Tryz.slices_Sorted_keys_194_195 {H : Type} (b nn : Nat) (D0 : DataW H) (R : Value → Option (DataW H × List MemPlace)) (w : World) (hown : w.ownsMap Tryz.prog 9 R b nn D0) (hmax : Maps.size D0 ≤ maxLen) (hbytes : Maps.size D0 * 16 ≤ 140737488355328) :
 CallsIn Fence.wide 5 Tryz.prog 194 #[.func (.func 234) #[] #[.pointer (some ⟨w.heap.size, 0, none⟩)]] (w.alloc (.cells #[.map (some b)] 196)) fun e w' => ∃ (v : Value) (ss : List (List UInt8)), e = .returned v ∧ ss.Perm (strKeys D0) ∧
  w'.ownsRow (w.alloc (.cells #[.map (some b)] 196)).heap.size 9 1 v ss.length ((ss.mergeSort (fun x y => decide (x ≤ y))).map encStr) ∧ (v = .slice none 0 0 ↔ ss = []) ∧ Below (w.alloc (.cells #[.map (some b)] 196)).heap.size (w.alloc (.cells #[.map (some b)] 196)) w' := by
 have hbl := hown.lt
 have hseq : SeqGives Fence.wide 2 Tryz.prog 234 #[.pointer (some ⟨w.heap.size, 0, none⟩)] encStr (fun ss => ss.Perm (strKeys D0)) (Maps.size D0) (w.alloc (.cells #[.map (some b)] 196)) :=
  AnyZ.keys_gives (ρ := Tryz.keys195_ren) { Tryz.keys195 with } Fence.wide _ trivial rfl (by omega) w.heap.size b nn D0 _ (by simp) (by simp) (by
   obtain ⟨es, clock, hb, Ft, hs, hD⟩ := hown
   exact ⟨es, clock, (Below.heap_alloc _ _ b hbl).trans hb, Ft, hs, hD⟩)
 exact AnyZ.sorted_in Tryz.sorted194 Fence.wide 5 trivial trivial trivial trivial rfl (by omega) (Tryz.sorts194 _) (enters_of Tryz.func184 qiter_1 rfl) 234 #[.pointer (some ⟨w.heap.size, 0, none⟩)] trivial (enters_of Tryz.func234 qiter_1 rfl) _ _ hmax hbytes _ hseq
end Go.Proofs
