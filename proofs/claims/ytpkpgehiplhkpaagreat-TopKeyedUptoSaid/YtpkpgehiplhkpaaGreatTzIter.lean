/-
  DERIVED: THE SHELF's CONTRACTS AT THIS DUMP, IN PLAIN WORDS (tools/lay-plain.mjs out of 'TryzIter.lean', which tools/lay-shelf.mjs wrote): THE SAME DECLARATIONS UNDER THE SAME NAMES: 'import', 'namespace', 'open', 'def', 'theorem' AND NOTHING ELSE: no command of the shelf's: FOR A HAND-IN. Each laying: the table of numbers ('.._ren') and one theorem, a field a fact of the dump's own or the kernel's comparison; each contract: ONE APPLICATION.
-/
import Derived.Shelf.SlIter.Nil
import Derived.Shelf.SortM.Plain
import Derived.Shelf.SortM.SortNone
import Derived.Ground.GgzProg
import Derived.Ground.SlgmProg
import Derived.Test.YtpkpgehiplhkpaaGreatProg
namespace Go.Proofs
open Go.Shelf
def Tryz.keys192_ren : Go.Shelf.Ren := ⟨fun | 7 => 192 | 10 => 246 | n => n, fun | 23 => 246 | 26 => 9 | 3 => 4 | 28 => 249 | 0 => 0 | 27 => 248 | 33 => 208 | 4 => 4 | n => n, fun | n => n⟩
theorem Tryz.keys192 : Go.Proofs.SlLaysZ.n7 Tryz.prog Tryz.keys192_ren := {
  mixed := by kernel_rfl
  f7 := ⟨Tryz.f192.name, by decide, Tryz.func192.trans (congrArg some (by kernel_rfl))⟩
  f10 := ⟨Tryz.f246.name, by decide, Tryz.func246.trans (congrArg some (by kernel_rfl))⟩
  t0 := Tryz.underlying0
  a0 := Tryz.isAgg0
  z0 := Tryz.sizeOf0
  v0 := Tryz.zeroValue0
  t4 := Tryz.underlying4
  a4 := Tryz.isAgg4
  z4 := Tryz.sizeOf4
  v4 := Tryz.zeroValue4
  t23 := Tryz.underlying246
  a23 := Tryz.isAgg246
  z23 := Tryz.sizeOf246
  v23 := Tryz.zeroValue246
  t26 := Tryz.underlying9
  a26 := Tryz.isAgg9
  z26 := Tryz.sizeOf9
  v26 := Tryz.zeroValue9
  t27 := Tryz.underlying248
  a27 := Tryz.isAgg248
  z27 := Tryz.sizeOf248
  v27 := Tryz.zeroValue248
  t28 := Tryz.underlying249
  a28 := Tryz.isAgg249
  z28 := Tryz.sizeOf249
  v28 := Tryz.zeroValue249
  t33 := Tryz.underlying208
  a33 := Tryz.isAgg208
  z33 := Tryz.sizeOf208
  v33 := Tryz.zeroValue208 }
def Tryz.sorted191_ren : Go.Shelf.Ren := ⟨fun | 6 => 191 | 8 => 244 | 9 => 245 | 11 => 268 | 13 => 270 | 12 => 269 | 23 => 298 | 24 => 299 | 14 => 289 | 15 => 290 | 16 => 291 | 17 => 292 | 18 => 293 | 19 => 294 | 20 => 295 | 21 => 296 | 22 => 297 | 25 => 309 | 26 => 310 | 27 => 311 | 28 => 312 | 29 => 313 | 30 => 314 | 31 => 319 | n => n, fun | 26 => 9 | 28 => 249 | 24 => 30 | 0 => 0 | 3 => 3 | 37 => 148 | 48 => 98 | 50 => 97 | 4 => 4 | 40 => 301 | 39 => 300 | 45 => 291 | 5 => 5 | 9 => 9 | 51 => 313 | 55 => 317 | 57 => 320 | 58 => 321 | 33 => 208 | n => n, fun | n => n⟩
theorem Tryz.sorted191 : Go.Proofs.SlLaysZ.n6 Tryz.prog Tryz.sorted191_ren := {
  mixed := by kernel_rfl
  f6 := ⟨Tryz.f191.name, by decide, Tryz.func191.trans (congrArg some (by kernel_rfl))⟩
  f8 := ⟨Tryz.f244.name, by decide, Tryz.func244.trans (congrArg some (by kernel_rfl))⟩
  f11 := ⟨Tryz.f268.name, by decide, Tryz.func268.trans (congrArg some (by kernel_rfl))⟩
  t0 := Tryz.underlying0
  a0 := Tryz.isAgg0
  z0 := Tryz.sizeOf0
  v0 := Tryz.zeroValue0
  t24 := Tryz.underlying30
  a24 := Tryz.isAgg30
  z24 := Tryz.sizeOf30
  v24 := Tryz.zeroValue30
  t26 := Tryz.underlying9
  a26 := Tryz.isAgg9
  z26 := Tryz.sizeOf9
  v26 := Tryz.zeroValue9
  t28 := Tryz.underlying249
  a28 := Tryz.isAgg249
  z28 := Tryz.sizeOf249
  v28 := Tryz.zeroValue249
  i26 := by kernel_rfl }
def Tryz.sort245_ren : Go.Shelf.Ren := ⟨fun | 6 => 245 | 8 => 270 | 9 => 269 | 19 => 298 | 20 => 299 | 21 => 289 | 22 => 290 | 23 => 291 | 24 => 292 | 25 => 293 | 26 => 294 | 27 => 295 | 28 => 296 | 29 => 297 | 36 => 309 | 31 => 310 | 32 => 311 | 37 => 312 | 38 => 313 | 39 => 314 | 41 => 319 | n => n, fun | 27 => 30 | 29 => 9 | 3 => 3 | 32 => 148 | 26 => 30 | 0 => 0 | 44 => 98 | 46 => 97 | 4 => 4 | 36 => 301 | 35 => 300 | 41 => 291 | 5 => 5 | 9 => 9 | 53 => 313 | 57 => 317 | 63 => 320 | 64 => 321 | n => n, fun | n => n⟩
theorem Tryz.sort245 : Go.Proofs.SlLaysM.n6 Tryz.prog Tryz.sort245_ren := {
  mixed := by kernel_rfl
  f6 := ⟨Tryz.f245.name, by decide, Tryz.func245.trans (congrArg some (by kernel_rfl))⟩
  f8 := Tryz.func270.trans (congrArg some (by kernel_rfl))
  f9 := ⟨Tryz.f269.name, by decide, Tryz.func269.trans (congrArg some (by kernel_rfl))⟩
  f19 := Tryz.func298.trans (congrArg some (by kernel_rfl))
  f20 := Tryz.func299.trans (congrArg some (by kernel_rfl))
  f21 := ⟨Tryz.f289.name, by decide, Tryz.func289.trans (congrArg some (by kernel_rfl))⟩
  f22 := ⟨Tryz.f290.name, by decide, Tryz.func290.trans (congrArg some (by kernel_rfl))⟩
  f23 := ⟨Tryz.f291.name, by decide, Tryz.func291.trans (congrArg some (by kernel_rfl))⟩
  f24 := ⟨Tryz.f292.name, by decide, Tryz.func292.trans (congrArg some (by kernel_rfl))⟩
  f25 := ⟨Tryz.f293.name, by decide, Tryz.func293.trans (congrArg some (by kernel_rfl))⟩
  f26 := ⟨Tryz.f294.name, by decide, Tryz.func294.trans (congrArg some (by kernel_rfl))⟩
  f27 := ⟨Tryz.f295.name, by decide, Tryz.func295.trans (congrArg some (by kernel_rfl))⟩
  f28 := ⟨Tryz.f296.name, by decide, Tryz.func296.trans (congrArg some (by kernel_rfl))⟩
  f29 := ⟨Tryz.f297.name, by decide, Tryz.func297.trans (congrArg some (by kernel_rfl))⟩
  f31 := Tryz.func310.trans (congrArg some (by kernel_rfl))
  f32 := Tryz.func311.trans (congrArg some (by kernel_rfl))
  f36 := ⟨Tryz.f309.name, by decide, Tryz.func309.trans (congrArg some (by kernel_rfl))⟩
  f37 := ⟨Tryz.f312.name, by decide, Tryz.func312.trans (congrArg some (by kernel_rfl))⟩
  f38 := ⟨Tryz.f313.name, by decide, Tryz.func313.trans (congrArg some (by kernel_rfl))⟩
  f39 := ⟨Tryz.f314.name, by decide, Tryz.func314.trans (congrArg some (by kernel_rfl))⟩
  f41 := ⟨Tryz.f319.name, by decide, Tryz.func319.trans (congrArg some (by kernel_rfl))⟩
  t0 := Tryz.underlying0
  a0 := Tryz.isAgg0
  z0 := Tryz.sizeOf0
  v0 := Tryz.zeroValue0
  t3 := Tryz.underlying3
  a3 := Tryz.isAgg3
  z3 := Tryz.sizeOf3
  v3 := Tryz.zeroValue3
  t4 := Tryz.underlying4
  a4 := Tryz.isAgg4
  z4 := Tryz.sizeOf4
  v4 := Tryz.zeroValue4
  t5 := Tryz.underlying5
  a5 := Tryz.isAgg5
  z5 := Tryz.sizeOf5
  v5 := Tryz.zeroValue5
  t9 := Tryz.underlying9
  a9 := Tryz.isAgg9
  z9 := Tryz.sizeOf9
  v9 := Tryz.zeroValue9
  t26 := Tryz.underlying30
  a26 := Tryz.isAgg30
  z26 := Tryz.sizeOf30
  v26 := Tryz.zeroValue30
  t27 := Tryz.underlying30
  a27 := Tryz.isAgg30
  z27 := Tryz.sizeOf30
  v27 := Tryz.zeroValue30
  t29 := Tryz.underlying9
  a29 := Tryz.isAgg9
  z29 := Tryz.sizeOf9
  v29 := Tryz.zeroValue9
  t32 := Tryz.underlying148
  a32 := Tryz.isAgg148
  z32 := Tryz.sizeOf148
  v32 := Tryz.zeroValue148
  t35 := Tryz.underlying300
  a35 := Tryz.isAgg300
  z35 := Tryz.sizeOf300
  v35 := Tryz.zeroValue300
  t36 := Tryz.underlying301
  a36 := Tryz.isAgg301
  z36 := Tryz.sizeOf301
  v36 := Tryz.zeroValue301
  t41 := Tryz.underlying291
  a41 := Tryz.isAgg291
  z41 := Tryz.sizeOf291
  v41 := Tryz.zeroValue291
  t44 := Tryz.underlying98
  a44 := Tryz.isAgg98
  z44 := Tryz.sizeOf98
  v44 := Tryz.zeroValue98
  t46 := Tryz.underlying97
  a46 := Tryz.isAgg97
  z46 := Tryz.sizeOf97
  v46 := Tryz.zeroValue97
  t53 := Tryz.underlying313
  a53 := Tryz.isAgg313
  z53 := Tryz.sizeOf313
  v53 := Tryz.zeroValue313
  t57 := Tryz.underlying317
  a57 := Tryz.isAgg317
  z57 := Tryz.sizeOf317
  v57 := Tryz.zeroValue317
  t63 := Tryz.underlying320
  a63 := Tryz.isAgg320
  z63 := Tryz.sizeOf320
  v63 := Tryz.zeroValue320
  t64 := Tryz.underlying321
  a64 := Tryz.isAgg321
  z64 := Tryz.sizeOf321
  v64 := Tryz.zeroValue321 }
open Go.RowKit Go.Maps Go.Sort Go.Shelf in
/-- slices.Sort's two contracts at this dump, at the fence that asks nothing. -/
theorem Tryz.sorts191 (m : Nat) : AnyZ.SortsIn Tryz.prog Tryz.sorted191_ren Fence.wide m :=
  ⟨fun blk off cap ss W hH hblk hsz => callsIn_wide.2 (AnyM.slices_Sort_string Tryz.sort245 blk off cap ss W hH hblk hsz),
   fun p cap W => callsIn_wide.2 (AnyM.slices_Sort_string_none Tryz.sort245 p cap W)⟩

open Go.RowKit Go.Maps Go.Sort Go.Shelf in
/-- **maps.Keys[map[string]bool,string,bool], at whatever map, the nil one too:** a function value over ONE NEW BLOCK, which holds the map. -/
theorem Tryz.maps_Keys_192 (mb : Option Nat) (W : World) : CallsIn Fence.wide 5 Tryz.prog 192 #[.map mb] W fun e w' => e = .returned (.func (.func 246) #[] #[.pointer (some ⟨W.heap.size, 0, none⟩)]) ∧ w' = W.alloc (.cells #[.map mb] 246) :=
  AnyZ.keys_in Tryz.keys192 Fence.wide 5 trivial rfl mb W

open Go.RowKit Go.Maps Go.Sort Go.Shelf in
/-- **slices.Sorted[string] AT WHAT maps.Keys[map[string]bool,string,bool] HANDED BACK FOR A MAP THAT IS NOT nil** ('w': the world AHEAD of maps.Keys' call): A NEW SLICE THAT HOLDS THE MAP's KEYS, SORTED; nil just where it has none; nothing that lay before has turned. -/
theorem Tryz.slices_Sorted_keys_191_192 {H : Type} (b nn : Nat) (D0 : DataW H) (R : Value → Option (DataW H × List MemPlace)) (w : World) (hown : w.ownsMap Tryz.prog 9 R b nn D0) (hmax : Maps.size D0 ≤ maxLen) (hbytes : Maps.size D0 * 16 ≤ 140737488355328) :
    CallsIn Fence.wide 5 Tryz.prog 191 #[.func (.func 246) #[] #[.pointer (some ⟨w.heap.size, 0, none⟩)]] (w.alloc (.cells #[.map (some b)] 246)) fun e w' => ∃ (v : Value) (ss : List (List UInt8)), e = .returned v ∧ ss.Perm (strKeys D0) ∧
      w'.ownsRow (w.alloc (.cells #[.map (some b)] 246)).heap.size 9 1 v ss.length ((ss.mergeSort (fun x y => decide (x ≤ y))).map encStr) ∧ (v = .slice none 0 0 ↔ ss = []) ∧ Below (w.alloc (.cells #[.map (some b)] 246)).heap.size (w.alloc (.cells #[.map (some b)] 246)) w' := by
  have hbl := hown.lt
  have hseq : SeqGives Fence.wide 2 Tryz.prog 246 #[.pointer (some ⟨w.heap.size, 0, none⟩)] encStr (fun ss => ss.Perm (strKeys D0)) (Maps.size D0) (w.alloc (.cells #[.map (some b)] 246)) :=
    AnyZ.keys_gives (ρ := Tryz.keys192_ren) { Tryz.keys192 with } Fence.wide _ trivial rfl (by omega) w.heap.size b nn D0 _ (by simp) (by simp) (by
      obtain ⟨es, clock, hb, Ft, hs, hD⟩ := hown
      exact ⟨es, clock, (Below.heap_alloc _ _ b hbl).trans hb, Ft, hs, hD⟩)
  exact AnyZ.sorted_in Tryz.sorted191 Fence.wide 5 trivial trivial trivial trivial rfl (by omega) (Tryz.sorts191 _) (enters_of Tryz.func245 (by kernel_rfl) rfl) 246 #[.pointer (some ⟨w.heap.size, 0, none⟩)] trivial (enters_of Tryz.func246 (by kernel_rfl) rfl) _ _ hmax hbytes _ hseq

end Go.Proofs
