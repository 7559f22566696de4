/- The fixed facts of layer 33. Printed by gen.py. -/
import Derived.Test.YtimimkdgofiloaaGreatS34
import Derived.Test.YtimimkdgofiloaaGreatS2
namespace Go.Proofs.YtimimkdgofiloaaGreat
open Go Go.Q
abbrev ulB : ByteArray := ⟨#[117, 108]⟩
abbrev liB : ByteArray := ⟨#[108, 105]⟩
abbrev starA : ByteArray := ⟨#[42]⟩
abbrev trA : Tr := .mk 1 2 ulB ByteArray.empty [] [] [] [.mk 2 2 liB ByteArray.empty [] [] [] []]
abbrev lsA : List LisV := [([⟨liB, [], [], false⟩], false, false), ([⟨starA, [], [], false⟩], true, false), ([⟨ulB, [], [], false⟩], false, false)]
theorem okA : trA.ok := ⟨List.Pairwise.nil, by decide, ⟨List.Pairwise.nil, by decide, trivial⟩, trivial⟩
theorem dispA : (dispM lsA trA 2).1 = [(1, 1), (1, 2), (0, 2), (2, 1)] := by kernel_rfl
theorem pathA : pathM trA 2 = [1, 2] := by kernel_rfl
theorem selA : ∀ e ∈ lsA, e.1.length ≤ 500 := by
  intro e he
  simp only [lsA, List.mem_cons, List.not_mem_nil, or_false] at he
  rcases he with rfl | rfl | rfl <;> decide
theorem p2c : isP2 Tryz.prog 57 ⟨ "Listener", 3, 0, false, "", "", 0⟩ ⟨ "Node", 3, 1, false, "", "", 8⟩ .i64 .i64 := ⟨by kernel_rfl, by kernel_rfl, by kernel_rfl, by kernel_rfl, by decide, by decide, rfl, rfl, by kernel_rfl, by kernel_rfl, by kernel_rfl, by kernel_rfl⟩
set_option maxHeartbeats 4000000 in
theorem f4  : Fc Tryz.prog 4 [] [] (Just (aB true)) := by
  refine Fc.enter Tryz.func4 rfl Tryz.ntmps4 rfl fun X w => ?_
  refine T.rg ?_
  refine L.as rfl rfl ?_
  refine L.nil ?_
  refine T.rg ?_
  refine L.bld p32 z32 rfl rfl rfl rfl rfl ?_
  refine L.nilG (t := 3) [0, 0, 0, 0, 1, 2, 2, 8] rfl rfl ?_
  refine L.bsD rfl Tryz.underlying30 i32 rfl rfl rfl rfl rfl ?_
  refine L.bld p32 z32 rfl rfl rfl rfl rfl ?_
  refine L.nilG (t := 5) [0, 0, 0, 0, 1, 2, 2, 8] rfl rfl ?_
  refine L.alloc z32 rfl rfl fun b1 => ?_
  refine L.stog (cs' := trA.cs) 0 s32 rfl rfl rfl rfl rfl rfl ?_
  refine L.nil ?_
  refine T.rg ?_
  refine L.ldg (ys := trA.cs) 0 a32 s32 rfl rfl rfl rfl rfl ?_
  refine L.bld p62 z62 rfl rfl rfl rfl rfl ?_
  refine L.nilG (t := 7) [0, 1, 3, 0] rfl rfl ?_
  refine L.bsD rfl Tryz.underlying52 i62 rfl rfl rfl rfl rfl ?_
  refine L.bld p54 z54 rfl rfl rfl rfl rfl ?_
  refine L.bld p62 z62 rfl rfl rfl rfl rfl ?_
  refine L.nilG (t := 10) [0, 1, 3, 0] rfl rfl ?_
  refine L.bsD rfl Tryz.underlying52 i62 rfl rfl rfl rfl rfl ?_
  refine L.bld p54 z54 rfl rfl rfl rfl rfl ?_
  refine L.bld p62 z62 rfl rfl rfl rfl rfl ?_
  refine L.nilG (t := 13) [0, 1, 3, 0] rfl rfl ?_
  refine L.bsD rfl Tryz.underlying52 i62 rfl rfl rfl rfl rfl ?_
  refine L.bld p54 z54 rfl rfl rfl rfl rfl ?_
  refine L.bsD rfl Tryz.underlying43 i54 rfl rfl rfl rfl rfl ?_
  refine L.call e8 rfl rfl (f8 lsA (by decide) selA trA okA (by decide) 2) ?_
  rintro _ _ ⟨rfl, rfl⟩
  rw [dispA]
  refine L.as rfl rfl ?_
  refine L.nil ?_
  refine T.rg ?_
  refine L.mv rfl rfl ?_
  refine L.lenL Tryz.underlying47 rfl rfl fun hl19 => ?_
  refine L.cmp rfl rfl rfl rfl ?_
  refine L.setB (t := 20) (b' := true) rfl (rfl) ?_
  refine L.mv rfl rfl ?_
  refine L.on rfl rfl ?_
  refine L.mv rfl rfl ?_
  refine L.on rfl rfl ?_
  refine L.ixL 0 _ Tryz.underlying47 s57 rfl rfl rfl rfl rfl ?_
  refine L.on rfl rfl ?_
  refine L.lig a57 s57 rfl rfl rfl rfl ?_
  refine L.on rfl rfl ?_
  refine L.bld p57 z57 rfl rfl rfl rfl rfl ?_
  refine L.on rfl rfl ?_
  refine L.eqP2 p2c rfl rfl rfl ?_
  refine L.setB (t := 26) (b' := true) rfl (by decide) ?_
  refine L.pkT rfl rfl rfl ?_
  refine L.mv rfl rfl ?_
  refine L.on rfl rfl ?_
  refine L.mv rfl rfl ?_
  refine L.on rfl rfl ?_
  refine L.ixL 3 _ Tryz.underlying47 s57 rfl rfl rfl rfl rfl ?_
  refine L.on rfl rfl ?_
  refine L.lig a57 s57 rfl rfl rfl rfl ?_
  refine L.on rfl rfl ?_
  refine L.bld p57 z57 rfl rfl rfl rfl rfl ?_
  refine L.on rfl rfl ?_
  refine L.eqP2 p2c rfl rfl rfl ?_
  refine L.setB (t := 33) (b' := true) rfl (by decide) ?_
  refine L.pkT rfl rfl rfl ?_
  refine L.mv rfl rfl ?_
  refine L.on rfl rfl ?_
  refine L.ldg (ys := trA.cs) 0 a32 s32 rfl rfl rfl rfl rfl ?_
  refine L.on rfl rfl ?_
  refine L.call e9 rfl rfl (f9 trA okA (by decide) 2) ?_
  rintro _ _ ⟨rfl, rfl⟩
  rw [pathA]
  refine L.on rfl rfl ?_
  refine L.bsD rfl Tryz.underlying49 i3 rfl rfl rfl rfl rfl ?_
  refine L.on rfl rfl ?_
  refine L.call e12 rfl rfl (f12 [1, 2] [1, 2]) ?_
  rintro _ _ ⟨rfl, rfl⟩
  refine L.setB (t := 39) (b' := true) rfl (by decide) ?_
  refine L.pkT rfl rfl rfl ?_
  refine L.mv rfl rfl ?_
  refine L.on rfl rfl ?_
  refine L.ldg (ys := trA.cs) 0 a32 s32 rfl rfl rfl rfl rfl ?_
  refine L.on rfl rfl ?_
  refine L.call e13 rfl rfl (Fc.nils [0, 5, 0, 0] rfl (f13 trA okA (by decide) 0 0)) ?_
  rintro _ _ ⟨rfl, rfl⟩
  refine L.on rfl rfl ?_
  refine L.cmp rfl rfl rfl rfl ?_
  refine L.setB (t := 44) (b' := true) rfl (by decide) ?_
  refine L.pkT rfl rfl rfl ?_
  refine L.as rfl rfl ?_
  refine L.nil ?_
  refine T.ret ?_
  refine G.conv (drop_at (i := 0) rfl rfl) ?_
  exact G.ret (res1 Tryz.results4 rfl) ⟨rfl, rfl⟩
end Go.Proofs.YtimimkdgofiloaaGreat
