/- The fixed facts. Printed by gen.py. -/
import Derived.Test.YtlibfaghiogekaaS20
import Derived.Test.YtlibfaghiogekaaS15
namespace Go.Proofs.Ytlibfaghiogekaa
open Go Go.Q
abbrev tx1 : ByteArray := ⟨#[32, 117, 108, 32, 62, 32, 108, 105, 46, 111, 110, 91, 97, 61, 98, 93]⟩
abbrev tx2 : ByteArray := ⟨#[97, 32, 62, 32, 62, 32, 98]⟩
abbrev tx3 : ByteArray := ⟨#[117, 108, 32, 108, 105]⟩
abbrev ulB : ByteArray := ⟨#[117, 108]⟩
abbrev liB : ByteArray := ⟨#[108, 105]⟩
abbrev onB : ByteArray := ⟨#[111, 110]⟩
abbrev sl1 : List SPart := [⟨ulB, [], [], false⟩, ⟨liB, [onB], [(⟨#[97]⟩, ⟨#[98]⟩, false)], true⟩]
abbrev sl3 : List SPart := [⟨ulB, [], [], false⟩, ⟨liB, [], [], false⟩]
abbrev tr0 : Tr := .mk 1 2 ulB ByteArray.empty [] [] [] [.mk 2 2 liB ByteArray.empty [] [] [] []]
theorem rd1 : readS tx1 = some sl1 := by kernel_rfl
theorem rd2 : readS tx2 = none := by kernel_rfl
theorem pl2 : placeS tx2 = 4 := by kernel_rfl
theorem rd3 : readS tx3 = some sl3 := by kernel_rfl
theorem tt1 : selT sl1 2 = ⟨#[117, 108, 32, 62, 32, 108, 105, 46, 111, 110, 91, 97, 61, 98, 93]⟩ := by kernel_rfl
theorem al0 : allM sl3 tr0 = [2] := by kernel_rfl
theorem al1 : allM [] tr0 = [] := by kernel_rfl
theorem ok0 : tr0.ok := ⟨List.Pairwise.nil, by decide, ⟨List.Pairwise.nil, by decide, trivial⟩, trivial⟩
theorem len1 : ∀ p ∈ sl1, p.len ≤ 1000 := by
  intro p hp
  rcases List.mem_cons.1 hp with rfl | hp
  · decide
  · obtain rfl := List.mem_singleton.1 hp; decide
set_option maxHeartbeats 4000000 in
theorem f5  : Fc Try.prog 5 [] [] (Just (aB true)) := by
  refine Fc.enter Try.func5 rfl Try.ntmps5 rfl fun X w => ?_
  refine T.rg ?_
  refine L.as rfl rfl ?_
  refine L.nil ?_
  refine T.rg ?_
  refine L.call e9 rfl rfl (f9 tx1 (by decide)) ?_
  rintro _ _ ⟨rfl, l1, place1, e1, rfl, hm1⟩
  rw [rd1] at hm1
  obtain ⟨rfl, rfl, rfl⟩ := hm1
  refine L.mv rfl rfl ?_
  refine L.ex rfl rfl rfl ?_
  refine L.ex rfl rfl rfl ?_
  refine L.ex rfl rfl rfl ?_
  refine L.as rfl rfl ?_
  refine L.as rfl rfl ?_
  refine L.as rfl rfl ?_
  refine L.nil ?_
  refine T.rg ?_
  refine L.call e9 rfl rfl (f9 tx2 (by decide)) ?_
  rintro _ _ ⟨rfl, l2, place2, e2, rfl, hm2⟩
  rw [rd2] at hm2
  obtain ⟨rfl, rfl, rfl⟩ := hm2
  rw [pl2]
  refine L.mv rfl rfl ?_
  refine L.ex rfl rfl rfl ?_
  refine L.ex rfl rfl rfl ?_
  refine L.ex rfl rfl rfl ?_
  refine L.as rfl rfl ?_
  refine L.as rfl rfl ?_
  refine L.as rfl rfl ?_
  refine L.nil ?_
  refine T.rg ?_
  refine L.bld p31 z31 rfl rfl rfl rfl rfl ?_
  refine L.nilG (t := 21) [0, 0, 0, 0, 1, 2, 2, 8] rfl rfl ?_
  refine L.bsD rfl Try.underlying29 i31 rfl rfl rfl rfl rfl ?_
  refine L.bld p31 z31 rfl rfl rfl rfl rfl ?_
  refine L.nilG (t := 23) [0, 0, 0, 0, 1, 2, 2, 8] rfl rfl ?_
  refine L.alloc z31 rfl rfl fun b7 => ?_
  refine L.stog (cs' := tr0.cs) 0 s31 rfl rfl rfl rfl rfl rfl ?_
  refine L.nil ?_
  refine T.rg ?_
  refine L.call e9 rfl rfl (f9 tx3 (by decide)) ?_
  rintro _ _ ⟨rfl, l3, place3, e3, rfl, hm3⟩
  rw [rd3] at hm3
  obtain ⟨rfl, rfl, rfl⟩ := hm3
  refine L.mv rfl rfl ?_
  refine L.ex rfl rfl rfl ?_
  refine L.ex rfl rfl rfl ?_
  refine L.ex rfl rfl rfl ?_
  refine L.as rfl rfl ?_
  refine L.as rfl rfl ?_
  refine L.as rfl rfl ?_
  refine L.nil ?_
  refine T.rg ?_
  refine L.mv rfl rfl ?_
  refine L.cmp rfl rfl rfl rfl ?_
  refine L.setB (t := 30) (b' := true) rfl (rfl) ?_
  refine L.mv rfl rfl ?_
  refine L.on rfl rfl ?_
  refine L.mv rfl rfl ?_
  refine L.on rfl rfl ?_
  refine L.cmp rfl rfl rfl rfl ?_
  refine L.setB (t := 33) (b' := true) rfl (rfl) ?_
  refine L.pkT rfl rfl rfl ?_
  refine L.mv rfl rfl ?_
  refine L.on rfl rfl ?_
  refine L.mv rfl rfl ?_
  refine L.on rfl rfl ?_
  refine L.call e16 rfl rfl (f16 sl1 (by decide) len1) ?_
  rintro _ _ ⟨rfl, rfl⟩
  rw [show sl1.length = 2 from rfl, tt1]
  refine L.on rfl rfl ?_
  refine L.eqS rfl rfl rfl ?_
  refine L.setB (t := 38) (b' := true) rfl (by decide) ?_
  refine L.pkT rfl rfl rfl ?_
  refine L.mv rfl rfl ?_
  refine L.on rfl rfl ?_
  refine L.mv rfl rfl ?_
  refine L.on rfl rfl ?_
  refine L.cmp rfl rfl rfl rfl ?_
  refine L.setB (t := 42) (b' := true) rfl (rfl) ?_
  refine L.pkT rfl rfl rfl ?_
  refine L.mv rfl rfl ?_
  refine L.on rfl rfl ?_
  refine L.mv rfl rfl ?_
  refine L.on rfl rfl ?_
  refine L.cmp rfl rfl rfl rfl ?_
  refine L.setB (t := 46) (b' := true) rfl (rfl) ?_
  refine L.pkT rfl rfl rfl ?_
  refine L.mv rfl rfl ?_
  refine L.on rfl rfl ?_
  refine L.ldg (ys := tr0.cs) 0 a31 s31 rfl rfl rfl rfl rfl ?_
  refine L.on rfl rfl ?_
  refine L.mv rfl rfl ?_
  refine L.on rfl rfl ?_
  refine L.call e12 rfl rfl (f12 sl3 (by decide) tr0 ok0 (by decide)) ?_
  rintro _ _ ⟨rfl, rfl⟩
  rw [al0]
  refine L.on rfl rfl ?_
  refine L.bsD rfl Try.underlying52 i3 rfl rfl rfl rfl rfl ?_
  refine L.on rfl rfl ?_
  refine L.call e11 rfl rfl (f11 [2] [2]) ?_
  rintro _ _ ⟨rfl, rfl⟩
  refine L.setB (t := 53) (b' := true) rfl (by decide) ?_
  refine L.pkT rfl rfl rfl ?_
  refine L.mv rfl rfl ?_
  refine L.on rfl rfl ?_
  refine L.ldg (ys := tr0.cs) 0 a31 s31 rfl rfl rfl rfl rfl ?_
  refine L.on rfl rfl ?_
  refine L.call e12 rfl rfl (Fc.nils [0, 4] rfl (f12 [] (by decide) tr0 ok0 (by decide))) ?_
  rintro _ _ ⟨rfl, rfl⟩
  rw [al1]
  refine L.on rfl rfl ?_
  refine L.lenL Try.underlying52 rfl rfl fun hl58 => ?_
  refine L.on rfl rfl ?_
  refine L.cmp rfl rfl rfl rfl ?_
  refine L.setB (t := 59) (b' := true) rfl (rfl) ?_
  refine L.pkT rfl rfl rfl ?_
  refine L.as rfl rfl ?_
  refine L.nil ?_
  refine T.ret ?_
  refine G.conv (drop_at (i := 0) rfl rfl) ?_
  exact G.ret (res1 Try.results5 rfl) ⟨rfl, rfl⟩
end Go.Proofs.Ytlibfaghiogekaa
