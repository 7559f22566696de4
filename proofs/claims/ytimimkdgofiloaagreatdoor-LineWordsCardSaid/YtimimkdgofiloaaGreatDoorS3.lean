/- strings.IndexAny on the cut's two cutsets. Printed by gen.py. -/
import Derived.Test.YtimimkdgofiloaaGreatDoorTy
import Derived.Test.YtimimkdgofiloaaGreatDoorDb
namespace Go.Proofs.YtimimkdgofiloaaGreatDoor
open Go Go.Q
abbrev I32 (r : Int) : SV := .c (.d (.i .i32 r))
theorem ix97 : isIxB Tryz.prog 89 := ⟨_, Tryz.func89, by kernel_rfl, by kernel_rfl, by kernel_rfl, by kernel_rfl⟩
set_option maxHeartbeats 400000 in
theorem f62 (s : ByteArray) (c : UInt8) : Fc Tryz.prog 62 [S_ s, B8 c] [] (Just (aN (Lib.indexByte s.data.toList c))) := by
  refine Fc.enter Tryz.func62 rfl Tryz.ntmps62 rfl fun X w => ?_
  refine T.rg ?_
  refine L.as rfl rfl ?_
  refine L.nil ?_
  refine T.rg ?_
  refine L.mv rfl rfl ?_
  refine L.mv rfl rfl ?_
  refine L.ixB ix97 rfl rfl rfl ?_
  refine L.as rfl rfl ?_
  refine L.nil ?_
  refine T.ret ?_
  exact G.ret (res1 Tryz.results62 rfl) ⟨rfl, by simp⟩

set_option maxHeartbeats 400000 in
theorem f91 (s : ByteArray) (c : UInt8) : Fc Tryz.prog 91 [S_ s, B8 c] [] (Just (aN (Lib.indexByte s.data.toList c))) := by
  refine Fc.enter Tryz.func91 rfl Tryz.ntmps91 rfl fun X w => ?_
  refine T.rg ?_
  refine L.as rfl rfl ?_
  refine L.nil ?_
  refine T.rg ?_
  refine L.mv rfl rfl ?_
  refine L.mv rfl rfl ?_
  refine L.call e62 rfl rfl (f62 s c) ?_
  rintro _ _ ⟨rfl, rfl⟩
  refine L.as rfl rfl ?_
  refine L.nil ?_
  refine T.ret ?_
  exact G.ret (res1 Tryz.results91 rfl) ⟨rfl, rfl⟩

set_option maxHeartbeats 400000 in
theorem f92 (r : Int) : Fc Tryz.prog 92 [I32 r] [] (Just (aB (validRune r))) := by
  refine Fc.enter Tryz.func92 rfl Tryz.ntmps92 rfl fun X w => ?_
  refine T.rg ?_
  refine L.as rfl rfl ?_
  refine L.nil ?_
  refine T.of_seq ?_
  refine T.block ?_
  refine T.rg ?_
  refine L.mv rfl rfl ?_
  refine L.cmp rfl rfl rfl rfl ?_
  refine L.mv rfl rfl ?_
  refine L.caseB 6 rfl (fun h6 => ?_) (fun h6 => ?_)
  · skip
    refine L.on rfl rfl ?_
    refine L.mv rfl rfl ?_
    refine L.on rfl rfl ?_
    refine L.cmp rfl rfl rfl rfl ?_
    refine L.pkT rfl rfl rfl ?_
    refine L.as rfl rfl ?_
    refine L.nil ?_
    refine T.cond rfl (fun h3 => ?_) (fun h3 => ?_)
    · skip
      refine T.rg ?_
      refine L.as rfl rfl ?_
      refine L.nil ?_
      refine T.ret ?_
      exact G.ret (res1 Tryz.results92 rfl) ⟨rfl, congrArg aB (by simp_all [validRune] <;> omega)⟩
    · skip
      refine T.rg ?_
      refine L.mv rfl rfl ?_
      refine L.cmp rfl rfl rfl rfl ?_
      refine L.mv rfl rfl ?_
      refine L.caseB 13 rfl (fun h13 => ?_) (fun h13 => ?_)
      · skip
        refine L.on rfl rfl ?_
        refine L.mv rfl rfl ?_
        refine L.on rfl rfl ?_
        refine L.cmp rfl rfl rfl rfl ?_
        refine L.pkT rfl rfl rfl ?_
        refine L.as rfl rfl ?_
        refine L.nil ?_
        refine T.cond rfl (fun h10 => ?_) (fun h10 => ?_)
        · skip
          refine T.rg ?_
          refine L.as rfl rfl ?_
          refine L.nil ?_
          refine T.ret ?_
          exact G.ret (res1 Tryz.results92 rfl) ⟨rfl, congrArg aB (by simp_all [validRune] <;> omega)⟩
        · skip
          refine T.skip ?_
          refine T.go (fun _ _ h => h) ?_
          refine T.rg ?_
          refine L.as rfl rfl ?_
          refine L.nil ?_
          refine T.ret ?_
          exact G.ret (res1 Tryz.results92 rfl) ⟨rfl, congrArg aB (by simp_all [validRune] <;> omega)⟩
      · skip
        refine L.off rfl rfl rfl rfl ?_
        refine L.off rfl rfl rfl rfl ?_
        refine L.pkF rfl rfl rfl ?_
        refine L.as rfl rfl ?_
        refine L.nil ?_
        refine T.condF rfl ?_
        refine T.skip ?_
        refine T.go (fun _ _ h => h) ?_
        refine T.rg ?_
        refine L.as rfl rfl ?_
        refine L.nil ?_
        refine T.ret ?_
        exact G.ret (res1 Tryz.results92 rfl) ⟨rfl, congrArg aB (by simp_all [validRune] <;> omega)⟩
  · skip
    refine L.off rfl rfl rfl rfl ?_
    refine L.off rfl rfl rfl rfl ?_
    refine L.pkF rfl rfl rfl ?_
    refine L.as rfl rfl ?_
    refine L.nil ?_
    refine T.condF rfl ?_
    refine T.rg ?_
    refine L.mv rfl rfl ?_
    refine L.cmp rfl rfl rfl rfl ?_
    refine L.mv rfl rfl ?_
    refine L.caseB 13 rfl (fun h13 => ?_) (fun h13 => ?_)
    · skip
      refine L.on rfl rfl ?_
      refine L.mv rfl rfl ?_
      refine L.on rfl rfl ?_
      refine L.cmp rfl rfl rfl rfl ?_
      refine L.pkT rfl rfl rfl ?_
      refine L.as rfl rfl ?_
      refine L.nil ?_
      refine T.cond rfl (fun h10 => ?_) (fun h10 => ?_)
      · skip
        refine T.rg ?_
        refine L.as rfl rfl ?_
        refine L.nil ?_
        refine T.ret ?_
        exact G.ret (res1 Tryz.results92 rfl) ⟨rfl, congrArg aB (by simp_all [validRune] <;> omega)⟩
      · skip
        refine T.skip ?_
        refine T.go (fun _ _ h => h) ?_
        refine T.rg ?_
        refine L.as rfl rfl ?_
        refine L.nil ?_
        refine T.ret ?_
        exact G.ret (res1 Tryz.results92 rfl) ⟨rfl, congrArg aB (by simp_all [validRune] <;> omega)⟩
    · skip
      refine L.off rfl rfl rfl rfl ?_
      refine L.off rfl rfl rfl rfl ?_
      refine L.pkF rfl rfl rfl ?_
      refine L.as rfl rfl ?_
      refine L.nil ?_
      refine T.condF rfl ?_
      refine T.skip ?_
      refine T.go (fun _ _ h => h) ?_
      refine T.rg ?_
      refine L.as rfl rfl ?_
      refine L.nil ?_
      refine T.ret ?_
      exact G.ret (res1 Tryz.results92 rfl) ⟨rfl, congrArg aB (by simp_all [validRune] <;> omega)⟩

set_option maxHeartbeats 400000 in
theorem f67a (s : ByteArray) (c : UInt8) (hc : c.toNat < 128) : Fc Tryz.prog 67 [S_ s, I32 (c.toNat : Int)] [] (Just (aN (Lib.indexByte s.data.toList c))) := by
  refine Fc.enter Tryz.func67 rfl Tryz.ntmps67 rfl fun X w => ?_
  refine T.rg ?_
  refine L.as rfl rfl ?_
  refine L.nil ?_
  refine T.block ?_
  refine T.rg ?_
  refine L.mv rfl rfl ?_
  refine L.cmp rfl rfl rfl rfl ?_
  refine L.mv rfl rfl ?_
  refine L.caseB 163 rfl (fun h163 => ?_) (fun h163 => ?_)
  · skip
    refine L.on rfl rfl ?_
    refine L.mv rfl rfl ?_
    refine L.on rfl rfl ?_
    refine L.cmp rfl rfl rfl rfl ?_
    refine L.pkT rfl rfl rfl ?_
    refine L.as rfl rfl ?_
    refine L.nil ?_
    refine T.cond rfl (fun h160 => ?_) (fun h160 => ?_)
    · skip
      refine T.rg ?_
      refine L.mv rfl rfl ?_
      refine L.mv rfl rfl ?_
      refine L.cvI (c.toNat : Int) (by rw [Tryz.underlying21]; rfl) Tryz.underlying5 rfl (by rw [IntKind.wrap_u8]; omega) rfl ?_
      refine L.call e91 rfl rfl (f91 s c) ?_
      rintro _ _ ⟨rfl, rfl⟩
      refine L.as rfl rfl ?_
      refine L.nil ?_
      refine T.ret ?_
      exact G.ret (res1 Tryz.results67 rfl) ⟨rfl, rfl⟩
    · skip
      exfalso
      simp at h160
      omega
  · skip
    exfalso
    simp at h163

set_option maxHeartbeats 2000000 in
theorem f67b (s : ByteArray) (hs : ∀ b ∈ s.data.toList, b.toNat < 128) (h4 : 4 ≤ s.size) (hm : s.size ≤ 1000000) (r : Int) (hr : 128 ≤ r) : Fc Tryz.prog 67 [S_ s, I32 r] [] (Just (aN (-1))) := by
  refine Fc.enter Tryz.func67 rfl Tryz.ntmps67 rfl fun X w => ?_
  refine T.rg ?_
  refine L.as rfl rfl ?_
  refine L.nil ?_
  refine T.block ?_
  refine T.rg ?_
  refine L.mv rfl rfl ?_
  refine L.cmp rfl rfl rfl rfl ?_
  refine L.mv rfl rfl ?_
  refine L.caseB 163 rfl (fun h163 => ?_) (fun h163 => ?_)
  · skip
    refine L.on rfl rfl ?_
    refine L.mv rfl rfl ?_
    refine L.on rfl rfl ?_
    refine L.cmp rfl rfl rfl rfl ?_
    refine L.pkT rfl rfl rfl ?_
    refine L.as rfl rfl ?_
    refine L.nil ?_
    refine T.cond rfl (fun h160 => ?_) (fun h160 => ?_)
    · skip
      exfalso
      simp at h160
      omega
    · skip
      refine T.rg ?_
      refine L.mv rfl rfl ?_
      refine L.cmp rfl rfl rfl rfl ?_
      refine L.as rfl rfl ?_
      refine L.nil ?_
      refine T.cond rfl (fun h171 => ?_) (fun h171 => ?_)
      · skip
        have hr3 : r = 65533 := by simpa using h171
        refine T.of_seq ?_
        refine T.rg ?_
        refine L.mv rfl rfl ?_
        refine L.rng Tryz.underlying9 rfl rfl fun b175 => ?_
        refine L.nil ?_
        refine T.block ?_
        refine T.loop (fun m σ Ω => ∃ p : Nat, p ≤ s.size ∧ m = s.size - p ∧ σ = [(175, aP b175 0), (0, aS s), (1, aI .i32 r)] ∧ Ω = [.raw b175 (.stringIter s p)]) (s.size) _ (⟨0, by omega, by omega, rfl, rfl⟩) (by repeat constructor) ?_
        rintro m σ Ω ⟨p, hp, rfl, rfl, rfl⟩
        refine T.rg ?_
        by_cases hlt : p < s.size
        · skip
          have hlow : s[p].toNat < 128 := hs _ (List.mem_of_getElem? (get_list s p hlt))
          have hd := decode_ascii s p hlt hlow
          refine L.nxt 0 rfl rfl hlt (.z _ _ _) rfl ?_
          rw [hd]
          refine L.ex rfl rfl rfl ?_
          refine L.nil ?_
          refine T.of_seq ?_
          refine T.condT rfl ?_
          refine T.skip ?_
          refine T.go (fun _ _ h => h) ?_
          refine T.block ?_
          refine T.rg ?_
          refine L.ex rfl rfl rfl ?_
          refine L.ex rfl rfl rfl ?_
          refine L.as rfl rfl ?_
          refine L.as rfl rfl ?_
          refine L.nil ?_
          refine T.rg ?_
          refine L.mv rfl rfl ?_
          refine L.cmp rfl rfl rfl rfl ?_
          refine L.nil ?_
          refine T.cond rfl (fun h181 => ?_) (fun h181 => ?_)
          · skip
            exfalso
            simp at h181
            omega
          · skip
            refine T.skip ?_
            refine G.round (s.size - (p + 1)) _ (by omega) ⟨p + 1, by omega, rfl, rfl, rfl⟩ (by repeat constructor)
        · skip
          refine L.nxtE 0 rfl rfl (by omega) rfl ?_
          refine L.ex rfl rfl rfl ?_
          refine L.nil ?_
          refine T.of_seq ?_
          refine T.condF rfl ?_
          refine T.exit ?_
          refine T.go (fun _ _ h => h) ?_
          refine T.rg ?_
          refine L.as rfl rfl ?_
          refine L.nil ?_
          refine T.ret ?_
          refine G.conv (drop_at (i := 0) rfl rfl) ?_
          refine G.ret (res1 Tryz.results67 rfl) ?_
          refine ⟨rfl, rfl⟩
      · skip
        refine T.rg ?_
        refine L.mv rfl rfl ?_
        refine L.call e92 rfl rfl (f92 r) ?_
        rintro _ _ ⟨rfl, rfl⟩
        refine L.not rfl rfl ?_
        refine L.as rfl rfl ?_
        refine L.nil ?_
        refine T.cond rfl (fun h183 => ?_) (fun h183 => ?_)
        · skip
          refine T.rg ?_
          refine L.as rfl rfl ?_
          refine L.nil ?_
          refine T.ret ?_
          exact G.ret (res1 Tryz.results67 rfl) ⟨rfl, rfl⟩
        · skip
          have hv : Utf8.valid r = true := by rw [validRune_eq]; simpa using h183
          have he := encode_facts r hv hr
          obtain ⟨he1, he2, he3⟩ := he
          have he3 := he3 (by omega)
          refine T.scope ?_
          refine T.rg ?_
          refine L.mv rfl rfl ?_
          refine L.cvS Tryz.underlying21 Tryz.underlying9 rfl rfl ?_
          refine L.as rfl rfl ?_
          refine L.nil ?_
          refine T.rg ?_
          refine L.mv rfl rfl ?_
          refine L.lenS Tryz.underlying9 rfl rfl ?_
          refine L.ar (((Utf8.encode r).size - 1 : Nat) : Int) rfl rfl rfl (by omega) rfl ?_
          refine L.as rfl rfl ?_
          refine L.nil ?_
          refine T.rg ?_
          refine L.mv rfl rfl ?_
          refine L.as rfl rfl ?_
          refine L.nil ?_
          refine T.rg ?_
          refine L.as rfl rfl ?_
          refine L.nil ?_
          refine T.of_seq ?_
          refine T.block ?_
          refine T.loop (fun m σ Ω => σ = [(7, aS (Utf8.encode r)), (8, aN (((Utf8.encode r).size - 1 : Nat) : Int)), (9, aN (((Utf8.encode r).size - 1 : Nat) : Int)), (10, aN 0), (0, aS s), (1, aI .i32 r)] ∧ Ω = []) (0) _ (⟨rfl, rfl⟩) (by repeat constructor) ?_
          rintro m σ Ω ⟨rfl, rfl⟩
          refine T.of_seq ?_
          refine T.rg ?_
          refine L.mv rfl rfl ?_
          refine L.mv rfl rfl ?_
          refine L.lenS Tryz.underlying9 rfl rfl ?_
          refine L.cmp rfl rfl rfl rfl ?_
          refine L.nil ?_
          refine T.cond rfl (fun h26 => ?_) (fun h26 => ?_)
          · skip
            refine T.skip ?_
            refine T.go (fun _ _ h => h) ?_
            refine T.block ?_
            refine T.scope ?_
            refine T.of_seq ?_
            refine T.of_seq ?_
            have hk1 : (Utf8.encode r).size - 1 < s.size := by omega
            have hk2 : (Utf8.encode r).size - 1 < (Utf8.encode r).size := by omega
            refine T.drawD 6 [(0, aS s), (9, aN (((Utf8.encode r).size - 1 : Nat) : Int)), (7, aS (Utf8.encode r)), (8, aN (((Utf8.encode r).size - 1 : Nat) : Int))] [aS s, aN (((Utf8.encode r).size - 1 : Nat) : Int), aI .u8 (s[(Utf8.encode r).size - 1].toNat : Int), aS (Utf8.encode r), aN (((Utf8.encode r).size - 1 : Nat) : Int), aI .u8 ((Utf8.encode r)[(Utf8.encode r).size - 1].toNat : Int)] hmixed rfl rfl rfl rfl (by repeat constructor) ⟨?_, ?_, ?_, ?_, ?_, ?_, trivial⟩ ?_
            · intro σ' Ωf hsb hA
              refine L.mv (hsb.get rfl) rfl ?_
              exact L.last (G.finD rfl)
            · intro σ' Ωf hsb hA
              refine L.mv (hsb.get rfl) rfl ?_
              exact L.last (G.finD rfl)
            · intro σ' Ωf hsb hA
              refine L.ixS ((Utf8.encode r).size - 1) Tryz.underlying9 (hA 0 rfl) (hA 1 rfl) rfl hk1 rfl ?_
              exact L.last (G.finD rfl)
            · intro σ' Ωf hsb hA
              refine L.mv (hsb.get rfl) rfl ?_
              exact L.last (G.finD rfl)
            · intro σ' Ωf hsb hA
              refine L.mv (hsb.get rfl) rfl ?_
              exact L.last (G.finD rfl)
            · intro σ' Ωf hsb hA
              refine L.ixS ((Utf8.encode r).size - 1) Tryz.underlying9 (hA 3 rfl) (hA 4 rfl) rfl hk2 rfl ?_
              exact L.last (G.finD rfl)
            refine L.cmp rfl rfl rfl rfl ?_
            refine L.last ?_
            refine T.go (fun _ _ h => h) ?_
            refine T.cond rfl (fun h33 => ?_) (fun h33 => ?_)
            · skip
              refine T.of_seq ?_
              refine T.drawD 7 [(0, aS s), (9, aN (((Utf8.encode r).size - 1 : Nat) : Int)), (7, aS (Utf8.encode r)), (8, aN (((Utf8.encode r).size - 1 : Nat) : Int))] [aS s, aN (((Utf8.encode r).size - 1 : Nat) : Int), aN (((Utf8.encode r).size - 1 + 1 : Nat) : Int), aS (s.extract ((Utf8.encode r).size - 1 + 1) s.size), aS (Utf8.encode r), aN (((Utf8.encode r).size - 1 : Nat) : Int), aI .u8 ((Utf8.encode r)[(Utf8.encode r).size - 1].toNat : Int)] hmixed rfl rfl rfl rfl (by repeat constructor) ⟨?_, ?_, ?_, ?_, ?_, ?_, ?_, trivial⟩ ?_
              · intro σ' Ωf hsb hA
                refine L.mv (hsb.get rfl) rfl ?_
                exact L.last (G.finD rfl)
              · intro σ' Ωf hsb hA
                refine L.mv (hsb.get rfl) rfl ?_
                exact L.last (G.finD rfl)
              · intro σ' Ωf hsb hA
                refine L.ar (((Utf8.encode r).size - 1 + 1 : Nat) : Int) (hA 1 rfl) rfl rfl (by omega) rfl ?_
                exact L.last (G.finD rfl)
              · intro σ' Ωf hsb hA
                refine L.slS ((Utf8.encode r).size - 1 + 1) s.size Tryz.underlying9 (hA 0 rfl) ⟨_, hA 2 rfl⟩ rfl ⟨by omega, by omega⟩ rfl ?_
                exact L.last (G.finD rfl)
              · intro σ' Ωf hsb hA
                refine L.mv (hsb.get rfl) rfl ?_
                exact L.last (G.finD rfl)
              · intro σ' Ωf hsb hA
                refine L.mv (hsb.get rfl) rfl ?_
                exact L.last (G.finD rfl)
              · intro σ' Ωf hsb hA
                refine L.ixS ((Utf8.encode r).size - 1) Tryz.underlying9 (hA 4 rfl) (hA 5 rfl) rfl hk2 rfl ?_
                exact L.last (G.finD rfl)
              refine L.call e91 rfl rfl (f91 _ _) ?_
              rintro _ _ ⟨rfl, rfl⟩
              rw [← Lib.firstIdx_eq, firstIdx_ascii s _ _ _ hs he3]
              refine L.as rfl rfl ?_
              refine L.last ?_
              refine T.go (fun _ _ h => h) ?_
              refine T.of_seq ?_
              refine T.rg ?_
              refine L.mv rfl rfl ?_
              refine L.cmp rfl rfl rfl rfl ?_
              refine L.nil ?_
              refine T.cond rfl (fun h43 => ?_) (fun h43 => ?_)
              · skip
                refine T.rg ?_
                refine L.as rfl rfl ?_
                refine L.nil ?_
                refine T.ret ?_
                exact G.ret (res1 Tryz.results67 rfl) ⟨rfl, rfl⟩
              · skip
                exfalso
                simp at h43
            · skip
              exfalso
              simp at h33
              have := hs _ (List.mem_of_getElem? (get_list s _ hk1))
              omega
          · skip
            exfalso
            simp at h26
            omega
  · skip
    exfalso
    simp at h163
    omega

/-- IndexRune in the cutset of the selectors' ends. -/
theorem f67e (r : Nat) : Fc Tryz.prog 67 [S_ endsB, I32 (r : Int)] [] fun x Ω => Ω = [] ∧ ∃ z : Int, x = aN z ∧ (0 ≤ z ↔ r < 128 ∧ stopB (UInt8.ofNat r) = true) := by
  by_cases h : r < 128
  · have hc : (UInt8.ofNat r).toNat = r := by simp; omega
    have hf := f67a endsB (UInt8.ofNat r) (by omega)
    rw [hc] at hf
    refine hf.mono ?_
    rintro x Ω ⟨rfl, rfl⟩
    exact ⟨rfl, _, rfl, by rw [ends_stop]; simp [h]⟩
  · refine (f67b endsB ends_low (by decide) (by decide) r (by omega)).mono ?_
    rintro x Ω ⟨rfl, rfl⟩
    exact ⟨rfl, _, rfl, by simp [h]⟩

set_option maxHeartbeats 400000 in
theorem f110 (m : Int) : Fc Tryz.prog 110 [N_ m] [] (Just (aB (decide (8 < m)))) := by
  refine Fc.enter Tryz.func110 rfl Tryz.ntmps110 rfl fun X w => ?_
  refine T.rg ?_
  refine L.as rfl rfl ?_
  refine L.nil ?_
  refine T.rg ?_
  refine L.mv rfl rfl ?_
  refine L.cmp rfl rfl rfl rfl ?_
  refine L.as rfl rfl ?_
  refine L.nil ?_
  refine T.ret ?_
  exact G.ret (res1 Tryz.results110 rfl) ⟨rfl, rfl⟩

set_option maxHeartbeats 2000000 in
set_option maxRecDepth 100000 in
theorem f25 (s : ByteArray) (hs : ∀ b ∈ s.data.toList, b.toNat < 128) (hm : s.size ≤ 1000000) : Fc Tryz.prog 25 [S_ s] [] (Just (.t [.g (setOf fun j => s.data.toList.any fun x => x.toNat == j), Bo true])) := by
  refine Fc.enter Tryz.func25 rfl Tryz.ntmps25 rfl fun X w => ?_
  refine T.rg ?_
  refine L.alloc z64 rfl rfl fun b2 => ?_
  refine L.as rfl rfl ?_
  refine L.nil ?_
  refine T.of_seq ?_
  refine T.rg ?_
  refine L.as rfl rfl ?_
  refine L.nil ?_
  refine T.block ?_
  refine T.loop (fun m σ Ω => ∃ k : Nat, k ≤ s.size ∧ m = s.size - k ∧ σ = [(4, aN k), (2, aP b2 0), (0, aS s)] ∧ Ω = [.blk b2 64 (setOf fun j => (s.data.toList.take k).any fun x => x.toNat == j)]) (s.size) _ (⟨0, by omega, by omega, rfl, by rw [List.take_zero]; exact congrArg (fun z => [Ob.blk b2 64 z]) (Eq.trans (by rfl) setOf_zero.symm)⟩) (by repeat constructor) ?_
  rintro m σ Ω ⟨k, hk, rfl, rfl, rfl⟩
  refine T.of_seq ?_
  refine T.rg ?_
  refine L.mv rfl rfl ?_
  refine L.mv rfl rfl ?_
  refine L.lenS Tryz.underlying9 rfl rfl ?_
  refine L.cmp rfl rfl rfl rfl ?_
  refine L.nil ?_
  refine T.cond rfl (fun h9 => ?_) (fun h9 => ?_)
  · skip
    have hlt : k < s.size := by simpa using h9
    have hlow : s[k].toNat < 128 := hs _ (List.mem_of_getElem? (get_list s k hlt))
    refine T.skip ?_
    refine T.go (fun _ _ h => h) ?_
    refine T.of_seq ?_
    refine T.block ?_
    refine T.rg ?_
    refine L.mv rfl rfl ?_
    refine L.mv rfl rfl ?_
    refine L.ixS k Tryz.underlying9 rfl rfl rfl hlt rfl ?_
    refine L.as rfl rfl ?_
    refine L.nil ?_
    refine T.of_seq ?_
    refine T.rg ?_
    refine L.mv rfl rfl ?_
    refine L.cmp rfl rfl rfl rfl ?_
    refine L.nil ?_
    refine T.cond rfl (fun h16 => ?_) (fun h16 => ?_)
    · skip
      exfalso
      simp at h16
      omega
    · skip
      refine T.skip ?_
      refine T.go (fun _ _ h => h) ?_
      refine T.region ?_
      refine L.mv rfl rfl ?_
      refine L.ia (s[k].toNat) Tryz.underlying64 s4 rfl rfl rfl (by omega) rfl ?_
      refine L.stK 0 (setOf fun j => (s.data.toList.take (k + 1)).any fun x => x.toNat == j) s4 rfl rfl rfl (by rw [setOf_len]; omega) ?_ rfl ?_
      · rw [Nat.zero_add]
        refine Eq.trans (setOf_set _ _) ?_
        rw [take_snoc s k hlt]
        congr 1
        funext j
        rw [List.any_append, Bool.or_comm]
        simp [Bool.beq_comm]
      refine L.last ?_
      refine T.go (fun _ _ h => h) ?_
      refine T.region ?_
      refine L.mv rfl rfl ?_
      refine L.ar ((k + 1 : Nat) : Int) rfl rfl rfl (by omega) rfl ?_
      refine L.as rfl rfl ?_
      refine L.last ?_
      refine G.round (s.size - (k + 1)) _ (by omega) ⟨k + 1, by omega, rfl, rfl, rfl⟩ (by repeat constructor)
  · skip
    have hge : s.size ≤ k := by simpa using h9
    refine T.exit ?_
    refine T.go (fun _ _ h => h) ?_
    refine T.rg ?_
    refine L.ldg 0 a64 s64 rfl rfl (by rw [List.drop_zero, List.take_of_length_le (by rw [setOf_len]; omega)]) (setOf_len _) rfl ?_
    refine L.stog 0 s64 rfl rfl rfl (by rw [setOf_len]; rfl) (by rw [setOf_len]; rfl) rfl ?_
    refine L.as rfl rfl ?_
    refine L.nil ?_
    refine T.ret ?_
    exact G.retW (drop_at (i := 0) rfl rfl) (resCT (i := 0) Tryz.results25 rfl a64 s64 rfl (by rw [setOf_len]; rfl) rfl) ⟨rfl, by rw [List.take_of_length_le (by rw [size_list]; exact hge)]; rfl⟩

set_option maxHeartbeats 400000 in
theorem f35 (q : Nat → Bool) (b : Nat) (c : UInt8) : Fc Tryz.prog 35 [P_ b 0, B8 c]  [.blk b 64 (setOf q)] (fun x Ω => x = aB (q c.toNat) ∧ Ω = [.blk b 64 (setOf q)]) := by
  refine Fc.enter Tryz.func35 rfl Tryz.ntmps35 rfl fun X w => ?_
  refine T.rg ?_
  refine L.as rfl rfl ?_
  refine L.nil ?_
  refine T.rg ?_
  refine L.mv rfl rfl ?_
  refine L.mv rfl rfl ?_
  refine L.nilck rfl rfl ?_
  refine L.ia c.toNat Tryz.underlying64 s4 rfl rfl rfl (by have := c.toNat_lt; omega) rfl ?_
  refine L.ld 0 o4 rfl rfl (by rw [Nat.zero_add]; exact setOf_get q (by have := c.toNat_lt; omega)) rfl ?_
  refine L.as rfl rfl ?_
  refine L.nil ?_
  refine T.ret ?_
  exact G.ret (res1 Tryz.results35 rfl) ⟨rfl, rfl⟩

set_option maxHeartbeats 400000 in
theorem f95c (s : ByteArray) : Fc Tryz.prog 95 [S_ s, S_ closeB] [] (fun x Ω => Ω = [] ∧ ∃ z : Int, x = aN z ∧ IdxIs (fun c => c == 93) s z) := by
  refine Fc.enter Tryz.func95 rfl Tryz.ntmps95 rfl fun X w => ?_
  refine T.rg ?_
  refine L.as rfl rfl ?_
  refine L.nil ?_
  refine T.of_seq ?_
  refine T.rg ?_
  refine L.mv rfl rfl ?_
  refine L.eqS rfl rfl rfl ?_
  refine L.nil ?_
  refine T.cond rfl (fun h12 => ?_) (fun h12 => ?_)
  · skip
    exact absurd h12 (by decide)
  · skip
    refine T.skip ?_
    refine T.go (fun _ _ h => h) ?_
    refine T.of_seq ?_
    refine T.rg ?_
    refine L.mv rfl rfl ?_
    refine L.lenS Tryz.underlying9 rfl rfl ?_
    refine L.cmp rfl rfl rfl rfl ?_
    refine L.nil ?_
    refine T.cond rfl (fun h15 => ?_) (fun h15 => ?_)
    · skip
      refine T.rg ?_
      refine L.mv rfl rfl ?_
      refine L.ixS 0 Tryz.underlying9 rfl rfl rfl (by decide) rfl ?_
      refine L.cvI 93 (by rw [Tryz.underlying5]; rfl) Tryz.underlying21 rfl (by decide) rfl ?_
      refine L.as rfl rfl ?_
      refine L.nil ?_
      refine T.of_seq ?_
      refine T.rg ?_
      refine L.mv rfl rfl ?_
      refine L.cmp rfl rfl rfl rfl ?_
      refine L.nil ?_
      refine T.cond rfl (fun h20 => ?_) (fun h20 => ?_)
      · skip
        exact absurd h20 (by decide)
      · skip
        refine T.skip ?_
        refine T.go (fun _ _ h => h) ?_
        refine T.rg ?_
        refine L.mv rfl rfl ?_
        refine L.mv rfl rfl ?_
        refine L.call e67 rfl rfl (f67a s 93 (by decide)) ?_
        rintro _ _ ⟨rfl, rfl⟩
        refine L.as rfl rfl ?_
        refine L.nil ?_
        refine T.ret ?_
        exact G.ret (res1 Tryz.results95 rfl) ⟨rfl, _, rfl, idx_of_byte s 93⟩
    · skip
      exact absurd h15 (by decide)

set_option maxHeartbeats 2000000 in
set_option maxRecDepth 100000 in
theorem f95e (s : ByteArray) (hsz : s.size ≤ 1000000) : Fc Tryz.prog 95 [S_ s, S_ endsB] [] (fun x Ω => Ω = [] ∧ ∃ z : Int, x = aN z ∧ IdxIs stopB s z) := by
  refine Fc.enter Tryz.func95 rfl Tryz.ntmps95 rfl fun X w => ?_
  refine T.rg ?_
  refine L.as rfl rfl ?_
  refine L.nil ?_
  refine T.of_seq ?_
  refine T.rg ?_
  refine L.mv rfl rfl ?_
  refine L.eqS rfl rfl rfl ?_
  refine L.nil ?_
  refine T.cond rfl (fun h12 => ?_) (fun h12 => ?_)
  · skip
    exact absurd h12 (by decide)
  · skip
    refine T.skip ?_
    refine T.go (fun _ _ h => h) ?_
    refine T.of_seq ?_
    refine T.rg ?_
    refine L.mv rfl rfl ?_
    refine L.lenS Tryz.underlying9 rfl rfl ?_
    refine L.cmp rfl rfl rfl rfl ?_
    refine L.nil ?_
    refine T.cond rfl (fun h15 => ?_) (fun h15 => ?_)
    · skip
      exact absurd h15 (by decide)
    · skip
      refine T.skip ?_
      refine T.go (fun _ _ h => h) ?_
      refine T.of_seq ?_
      refine T.rg ?_
      refine L.mv rfl rfl ?_
      refine L.lenS Tryz.underlying9 rfl rfl ?_
      refine L.call e110 rfl rfl (f110 _) ?_
      rintro _ _ ⟨rfl, rfl⟩
      refine L.nil ?_
      refine T.cond rfl (fun h26 => ?_) (fun h26 => ?_)
      · skip
        refine T.rg ?_
        refine L.mv rfl rfl ?_
        refine L.call e25 rfl rfl (f25 endsB ends_low (by decide)) ?_
        rintro _ _ ⟨rfl, rfl⟩
        refine L.mv rfl rfl ?_
        refine L.ex rfl rfl rfl ?_
        refine L.ex rfl rfl rfl ?_
        refine L.alloc z64 rfl rfl fun b6 => ?_
        refine L.stog 0 s64 rfl rfl rfl rfl (by rw [setOf_len]; rfl) rfl ?_
        refine L.as rfl rfl ?_
        refine L.nil ?_
        refine T.rg ?_
        refine L.mv rfl rfl ?_
        refine L.nil ?_
        refine T.cond rfl (fun h32 => ?_) (fun h32 => ?_)
        · skip
          refine T.of_seq ?_
          refine T.rg ?_
          refine L.as rfl rfl ?_
          refine L.nil ?_
          refine T.block ?_
          refine T.loop (fun m σ Ω => ∃ k : Nat, k ≤ s.size ∧ m = s.size - k ∧ (s.data.toList.take k).all (fun c => !stopB c) = true ∧ σ = [(8, aN k), (6, aP b6 0), (0, aS s)] ∧ Ω = [.blk b6 64 (setOf fun j => endsB.data.toList.any fun x => x.toNat == j)]) (s.size) _ (⟨0, by omega, by omega, by simp, rfl, rfl⟩) (by repeat constructor) ?_
          rintro m σ Ω ⟨k, hk, rfl, hall, rfl, rfl⟩
          refine T.of_seq ?_
          refine T.rg ?_
          refine L.mv rfl rfl ?_
          refine L.mv rfl rfl ?_
          refine L.lenS Tryz.underlying9 rfl rfl ?_
          refine L.cmp rfl rfl rfl rfl ?_
          refine L.nil ?_
          refine T.cond rfl (fun h36 => ?_) (fun h36 => ?_)
          · skip
            have hlt : k < s.size := by simpa using h36
            refine T.skip ?_
            refine T.go (fun _ _ h => h) ?_
            refine T.of_seq ?_
            refine T.block ?_
            refine T.rg ?_
            refine L.mv rfl rfl ?_
            refine L.mv rfl rfl ?_
            refine L.ixS k Tryz.underlying9 rfl rfl rfl hlt rfl ?_
            refine L.callO [] [_] [] rfl e35 rfl rfl (f35 _ b6 _) ?_
            rintro _ _ ⟨rfl, rfl⟩
            refine L.nil ?_
            refine T.cond rfl (fun h42 => ?_) (fun h42 => ?_)
            · skip
              refine T.rg ?_
              refine L.mv rfl rfl ?_
              refine L.as rfl rfl ?_
              refine L.nil ?_
              refine T.ret ?_
              refine G.conv (drop_at (i := 0) rfl rfl) ?_
              exact G.ret (res1 Tryz.results95 rfl) ⟨rfl, _, rfl, .inr ⟨k, rfl, hlt, by rw [← stop_any]; exact h42, hall⟩⟩
            · skip
              refine T.skip ?_
              refine T.go (fun _ _ h => h) ?_
              refine T.region ?_
              refine L.mv rfl rfl ?_
              refine L.ar ((k + 1 : Nat) : Int) rfl rfl rfl (by omega) rfl ?_
              refine L.as rfl rfl ?_
              refine L.last ?_
              refine G.round (s.size - (k + 1)) _ (by omega) ⟨k + 1, by omega, rfl, all_take_succ hlt hall (by rw [stop_any] at h42; simpa using h42), rfl, rfl⟩ (by repeat constructor)
          · skip
            have hge : s.size ≤ k := by simpa using h36
            refine T.exit ?_
            refine T.go (fun _ _ h => h) ?_
            refine T.rg ?_
            refine L.as rfl rfl ?_
            refine L.nil ?_
            refine T.ret ?_
            refine G.conv (drop_at (i := 0) rfl rfl) ?_
            exact G.ret (res1 Tryz.results95 rfl) ⟨rfl, _, rfl, .inl ⟨rfl, allB_done hge hall⟩⟩
        · skip
          cases h32
      · skip
        refine T.skip ?_
        refine T.go (fun _ _ h => h) ?_
        refine T.of_seq ?_
        refine T.rg ?_
        refine L.mv rfl rfl ?_
        refine L.rng Tryz.underlying9 rfl rfl fun b45 => ?_
        refine L.nil ?_
        refine T.block ?_
        refine T.loop (fun m σ Ω => ∃ p : Nat, p ≤ s.size ∧ m = s.size - p ∧ (s.data.toList.take p).all (fun c => !stopB c) = true ∧ σ = [(45, aP b45 0), (0, aS s), (1, aS endsB)] ∧ Ω = [.raw b45 (.stringIter s p)]) (s.size) _ (⟨0, by omega, by omega, by simp, rfl, rfl⟩) (by repeat constructor) ?_
        rintro m σ Ω ⟨p, hp, rfl, hall, rfl, rfl⟩
        refine T.rg ?_
        by_cases hlt : p < s.size
        · skip
          refine L.nxt 0 rfl rfl hlt (.z _ _ _) rfl ?_
          refine L.ex rfl rfl rfl ?_
          refine L.nil ?_
          refine T.of_seq ?_
          refine T.condT rfl ?_
          refine T.skip ?_
          refine T.go (fun _ _ h => h) ?_
          refine T.block ?_
          refine T.rg ?_
          refine L.ex rfl rfl rfl ?_
          refine L.ex rfl rfl rfl ?_
          refine L.as rfl rfl ?_
          refine L.as rfl rfl ?_
          refine L.nil ?_
          refine T.rg ?_
          refine L.mv rfl rfl ?_
          refine L.mv rfl rfl ?_
          refine L.call e67 rfl rfl (f67e _) ?_
          rintro _ _ ⟨rfl, z, rfl, hz⟩
          refine L.cmp rfl rfl rfl rfl ?_
          refine L.nil ?_
          refine T.cond rfl (fun h53 => ?_) (fun h53 => ?_)
          · skip
            refine T.rg ?_
            refine L.mv rfl rfl ?_
            refine L.as rfl rfl ?_
            refine L.nil ?_
            refine T.ret ?_
            refine G.conv (drop_at (i := 0) rfl rfl) ?_
            exact G.ret (res1 Tryz.results95 rfl) ⟨rfl, _, rfl, decode_hit hlt hall (hz.1 (by simpa using h53))⟩
          · skip
            refine T.skip ?_
            have hsk := decode_skip hlt hall (by rw [← hz]; simpa using h53)
            refine G.round (s.size - (p + (Utf8.decode s p).2)) _ (by omega) ⟨p + (Utf8.decode s p).2, hsk.2.1, rfl, hsk.2.2, rfl, rfl⟩ (by repeat constructor)
        · skip
          refine L.nxtE 0 rfl rfl (by omega) rfl ?_
          refine L.ex rfl rfl rfl ?_
          refine L.nil ?_
          refine T.of_seq ?_
          refine T.condF rfl ?_
          refine T.exit ?_
          refine T.go (fun _ _ h => h) ?_
          refine T.rg ?_
          refine L.as rfl rfl ?_
          refine L.nil ?_
          refine T.ret ?_
          refine G.conv (drop_at (i := 0) rfl rfl) ?_
          exact G.ret (res1 Tryz.results95 rfl) ⟨rfl, _, rfl, .inl ⟨rfl, allB_done (by omega) hall⟩⟩
end Go.Proofs.YtimimkdgofiloaaGreatDoor
