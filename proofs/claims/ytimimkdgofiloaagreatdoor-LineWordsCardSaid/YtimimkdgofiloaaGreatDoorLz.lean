/- The library's functions under slices.Sort of strings, as the shelf has them. Printed by lays2.py. -/
import Derived.Test.YtimimkdgofiloaaGreatDoorRows
import Derived.Test.YtimimkdgofiloaaGreatDoorChecked
import Derived.Shelf.Slices.In.SortAlone
import Derived.Sort.EveryDepth
import Derived.Sort.OwnSorted
import Derived.Lib.OwnBridge
import Derived.Test.YtimimkdgofiloaaGreatDoorS60
namespace Go.Proofs.YtimimkdgofiloaaGreatDoor
open Go
def renS : Go.Shelf.Ren := ⟨fun | 125 => 32 | 128 => 56 | 129 => 57 | 190 => 21 | 258 => 31 | 302 => 47 | 303 => 48 | 304 => 49 | 305 => 50 | 306 => 51 | 307 => 52 | 308 => 53 | 309 => 54 | 310 => 55 | 329 => 80 | 330 => 81 | 333 => 79 | 334 => 82 | 335 => 83 | 336 => 84 | 344 => 102 | n => n, fun | 0 => 0 | 3 => 3 | 4 => 4 | 5 => 5 | 9 => 9 | 31 => 27 | 46 => 78 | 51 => 112 | 53 => 114 | 131 => 25 | 182 => 104 | 183 => 105 | 218 => 130 | 222 => 134 | 228 => 154 | 229 => 155 | n => n, fun n => n⟩
theorem laysS : Lays.n190 Tryz.prog renS where
  mixed := by kernel_rfl
  f125 := Tryz.func32.trans (congrArg some (by kernel_rfl))
  f128 := Tryz.func56.trans (congrArg some (by kernel_rfl))
  f129 := Tryz.func57.trans (congrArg some (by kernel_rfl))
  f190 := Tryz.func21.trans (congrArg some (by kernel_rfl))
  f258 := Tryz.func31.trans (congrArg some (by kernel_rfl))
  f302 := Tryz.func47.trans (congrArg some (by kernel_rfl))
  f303 := Tryz.func48.trans (congrArg some (by kernel_rfl))
  f304 := Tryz.func49.trans (congrArg some (by kernel_rfl))
  f305 := Tryz.func50.trans (congrArg some (by kernel_rfl))
  f306 := Tryz.func51.trans (congrArg some (by kernel_rfl))
  f307 := Tryz.func52.trans (congrArg some (by kernel_rfl))
  f308 := Tryz.func53.trans (congrArg some (by kernel_rfl))
  f309 := Tryz.func54.trans (congrArg some (by kernel_rfl))
  f310 := Tryz.func55.trans (congrArg some (by kernel_rfl))
  f329 := Tryz.func80.trans (congrArg some (by kernel_rfl))
  f330 := Tryz.func81.trans (congrArg some (by kernel_rfl))
  f333 := Tryz.func79.trans (congrArg some (by kernel_rfl))
  f334 := Tryz.func82.trans (congrArg some (by kernel_rfl))
  f335 := Tryz.func83.trans (congrArg some (by kernel_rfl))
  f336 := Tryz.func84.trans (congrArg some (by kernel_rfl))
  f344 := Tryz.func102.trans (congrArg some (by kernel_rfl))
  t0 := Tryz.underlying0
  a0 := Tryz.isAgg0
  z0 := Tryz.sizeOf0
  v0 := Tryz.zeroValue0
  t3 := Tryz.underlying3
  a3 := Tryz.isAgg3
  z3 := Tryz.sizeOf3
  v3 := Tryz.zeroValue3
  t4 := Tryz.underlying4
  a4 := Tryz.isAgg4
  z4 := Tryz.sizeOf4
  v4 := Tryz.zeroValue4
  t5 := Tryz.underlying5
  a5 := Tryz.isAgg5
  z5 := Tryz.sizeOf5
  v5 := Tryz.zeroValue5
  t9 := Tryz.underlying9
  a9 := Tryz.isAgg9
  z9 := Tryz.sizeOf9
  v9 := Tryz.zeroValue9
  t31 := Tryz.underlying27
  a31 := Tryz.isAgg27
  z31 := Tryz.sizeOf27
  v31 := Tryz.zeroValue27
  t46 := Tryz.underlying78
  a46 := Tryz.isAgg78
  z46 := Tryz.sizeOf78
  v46 := Tryz.zeroValue78
  t51 := Tryz.underlying112
  a51 := Tryz.isAgg112
  z51 := Tryz.sizeOf112
  v51 := Tryz.zeroValue112
  t53 := Tryz.underlying114
  a53 := Tryz.isAgg114
  z53 := Tryz.sizeOf114
  v53 := Tryz.zeroValue114
  t131 := Tryz.underlying25
  a131 := Tryz.isAgg25
  z131 := Tryz.sizeOf25
  v131 := Tryz.zeroValue25
  t182 := Tryz.underlying104
  a182 := Tryz.isAgg104
  z182 := Tryz.sizeOf104
  v182 := Tryz.zeroValue104
  t183 := Tryz.underlying105
  a183 := Tryz.isAgg105
  z183 := Tryz.sizeOf105
  v183 := Tryz.zeroValue105
  t218 := Tryz.underlying130
  a218 := Tryz.isAgg130
  z218 := Tryz.sizeOf130
  v218 := Tryz.zeroValue130
  t222 := Tryz.underlying134
  a222 := Tryz.isAgg134
  z222 := Tryz.sizeOf134
  v222 := Tryz.zeroValue134
  t228 := Tryz.underlying154
  a228 := Tryz.isAgg154
  z228 := Tryz.sizeOf154
  v228 := Tryz.zeroValue154
  t229 := Tryz.underlying155
  a229 := Tryz.isAgg155
  z229 := Tryz.sizeOf155
  v229 := Tryz.zeroValue155
open Go.Shelf Go.Sort in
theorem sortS (blk off cap : Nat) (zs : List (List UInt8)) (w : World) (hH : Holds encStr w blk off zs.toArray) (hblk : blk < w.heap.size) (hsz : zs.length < 4611686018427387904) :
    Calls Tryz.prog 21 #[.slice (some ⟨blk, off, none⟩) zs.length cap] w fun e w' =>
      e = .returned (.tuple #[]) ∧ ∃ n os, w' = grow (putRow encStr (Sort.ahead w n) blk off (zs.mergeSort fun x y => decide (x ≤ y)).toArray) os :=
  calls_of_every_depth fun D => AnyS.slices_Sort_string_alone laysS D blk off cap zs w hH hblk hsz
open Go.Q
/-- Texts, rising. -/
def sortB (l : List ByteArray) : List ByteArray := ((l.map fun b => b.data.toList).mergeSort fun x y => decide (x ≤ y)).map mkB
theorem strs_vals {Y : List Nat} {w : World} : ∀ {us : List Value} {l : List ByteArray}, All2 (Rc Y w) us (strs l).flatten → us = (l.map fun b => b.data.toList).map encStr
  | [], [], _ => rfl
  | u :: us, b :: l, ⟨h1, h2⟩ => by
    have h3 := Rc.str_inv h1
    subst h3
    rw [strs_vals h2]; rfl
  | [], _ :: _, h => h.elim
  | _ :: _, [], h => h.elim
theorem vals_strs {Y : List Nat} {w : World} : ∀ (zs : List (List UInt8)), All2 (Rc Y w) (zs.map encStr) (strs (zs.map mkB)).flatten
  | [] => trivial
  | z :: zs => ⟨Rc.s _, vals_strs zs⟩
theorem f21 (v : Value) (l : List ByteArray) (h0 : 0 < l.length) (hl : l.length ≤ 1000000) : Fc Tryz.prog 21 [R_ v] [.row v 9 1 (strs l)] (fun x Ω => x = .t [] ∧ Ω = [.row v 9 1 (strs (sortB l))]) := by
  intro X w args hs ha
  match args, ha with
  | [u], ⟨h1, _⟩ =>
    obtain rfl : u = v := h1.1
    obtain ⟨us, hown, hu, hes⟩ := hs.obs (.row u 9 1 (strs l)) (by simp)
    obtain rfl := strs_vals hu
    have hsl : (strs l).length = l.length := by simp [strs]
    have hz : (l.map fun b => b.data.toList).length = l.length := by simp
    rw [hsl] at hown
    have hnn : u ≠ .slice none 0 0 := by
      rintro rfl
      rcases hown.2 with ⟨_, h⟩ | ⟨g, cap, cur, h, _⟩
      · omega
      · cases h
    obtain ⟨g, cap, rfl, hb, hg, hnc, hcm, _, hH⟩ := Lib.holds_of_ownsRow hown hnn
    have hc := sortS g 0 cap (l.map fun b => b.data.toList) w hH hg (by omega)
    rw [hz] at hc
    refine hc.mono ?_
    rintro e w' ⟨rfl, n, os, rfl⟩
    rcases hown.2 with ⟨h, _⟩ | ⟨g', cap', cur, h, _, hcur, _, _, hsz, _⟩
    · cases h
    · simp only [Value.slice.injEq, Option.some.injEq, Addr.mk.injEq, and_true] at h
      obtain ⟨rfl, _, rfl⟩ := h
      have hms : ((l.map fun b => b.data.toList).mergeSort fun x y => decide (x ≤ y)).length = l.length := by rw [List.length_mergeSort, hz]
      have hnew := ownsRow_sorted (base := 0) (n := n) (os := os) (ss := l.map fun b => b.data.toList) (ts := (l.map fun b => b.data.toList).mergeSort fun x y => decide (x ≤ y)) (by rw [hms, hz]) hb hcur (by rw [hz]; exact hnc) hcm hsz
      rw [hz] at hnew
      have hset := hs.setRow (A := []) (B := []) (v := .slice (some ⟨g, 0, none⟩) l.length cap) (v' := .slice (some ⟨g, 0, none⟩) l.length cap) (cs' := strs (sortB l)) _ (grownBy_sorted (w := w) (g := g) (n := n) (os := os) ((l.map fun b => b.data.toList).mergeSort fun x y => decide (x ≤ y)).toArray) (.inl rfl)
        (by rw [show (strs (sortB l)).length = l.length by simp [strs, sortB, hms]]; exact hnew) (vals_strs _) (by
          intro e he
          obtain ⟨b, _, rfl⟩ := List.mem_map.1 he
          rfl)
      exact ⟨.tuple #[], .t [], _, rfl, ⟨rfl, rfl⟩, hset.1, [], rfl, trivial⟩
end Go.Proofs.YtimimkdgofiloaaGreatDoor
