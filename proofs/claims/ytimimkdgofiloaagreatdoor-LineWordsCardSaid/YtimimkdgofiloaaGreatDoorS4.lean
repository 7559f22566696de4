/- The program's reader of selectors. Printed by gen.py. -/
import Derived.Test.YtimimkdgofiloaaGreatDoorS1
import Derived.Test.YtimimkdgofiloaaGreatDoorS3
import Derived.Test.YtimimkdgofiloaaGreatDoorDc
namespace Go.Proofs.YtimimkdgofiloaaGreatDoor
open Go Go.Q
abbrev rd (b : Nat) (s : ByteArray) (k : Nat) (bad : Bool) : Ob := .blk b 95 [.d (.s s), .d (.i .i64 (k : Int)), .d (.b bad)]
set_option maxHeartbeats 400000 in
theorem f44 (b : Nat) (s : ByteArray) (k : Nat) (bad : Bool) (hk : k ≤ s.size) (hs : s.size ≤ 1000) : Fc Tryz.prog 44 [P_ b 0] [rd b s k bad] (fun x Ω => x = .v (B8 (nextB s k)) ∧ Ω = [rd b s k bad]) := by
  refine Fc.enter Tryz.func44 rfl Tryz.ntmps44 rfl fun X w => ?_
  refine T.rg ?_
  refine L.as rfl rfl ?_
  refine L.nil ?_
  refine T.of_seq ?_
  refine T.of_seq ?_
  refine T.drawD 9 [(0, aP b 0)] [aP b 0, aP b 0, aP b 1, aN k, aP b 0, aP b 0, aP b 0, aS s, aN s.size] hmixed rfl rfl rfl rfl (by repeat constructor) ⟨?_, ?_, ?_, ?_, ?_, ?_, ?_, ?_, ?_, trivial⟩ ?_
  · intro σ' Ωf hsb hA
    refine L.mv (hsb.get rfl) rfl ?_
    exact L.last (G.finD rfl)
  · intro σ' Ωf hsb hA
    refine L.nilck (hA 0 rfl) rfl ?_
    exact L.last (G.finD rfl)
  · intro σ' Ωf hsb hA
    refine L.fa Tryz.underlying95 rfl s3 (hA 1 rfl) rfl ?_
    exact L.last (G.finD rfl)
  · intro σ' Ωf hsb hA
    refine L.ld 0 o3 (hA 2 rfl) rfl rfl rfl ?_
    exact L.last (G.finD rfl)
  · intro σ' Ωf hsb hA
    refine L.mv (hsb.get rfl) rfl ?_
    exact L.last (G.finD rfl)
  · intro σ' Ωf hsb hA
    refine L.nilck (hA 4 rfl) rfl ?_
    exact L.last (G.finD rfl)
  · intro σ' Ωf hsb hA
    refine L.fa Tryz.underlying95 rfl s9 (hA 5 rfl) rfl ?_
    exact L.last (G.finD rfl)
  · intro σ' Ωf hsb hA
    refine L.ld 0 o9 (hA 6 rfl) rfl rfl rfl ?_
    exact L.last (G.finD rfl)
  · intro σ' Ωf hsb hA
    refine L.lenS Tryz.underlying9 (hA 7 rfl) rfl ?_
    exact L.last (G.finD rfl)
  refine L.cmp rfl rfl rfl rfl ?_
  refine L.last ?_
  refine T.go (fun _ _ h => h) ?_
  refine T.cond rfl (fun h12 => ?_) (fun h12 => ?_)
  · skip
    have hge : s.size ≤ k := by simpa using h12
    refine T.rg ?_
    refine L.as rfl rfl ?_
    refine L.nil ?_
    refine T.ret ?_
    exact G.ret (res1 Tryz.results44 rfl) ⟨by rw [nextB_out hge]; rfl, rfl⟩
  · skip
    have hlt : k < s.size := by simpa using h12
    refine T.skip ?_
    refine T.go (fun _ _ h => h) ?_
    refine T.of_seq ?_
    refine T.drawD 8 [(0, aP b 0)] [aP b 0, aP b 0, aP b 0, aS s, aP b 0, aP b 0, aP b 1, aN k] hmixed rfl rfl rfl rfl (by repeat constructor) ⟨?_, ?_, ?_, ?_, ?_, ?_, ?_, ?_, trivial⟩ ?_
    · intro σ' Ωf hsb hA
      refine L.mv (hsb.get rfl) rfl ?_
      exact L.last (G.finD rfl)
    · intro σ' Ωf hsb hA
      refine L.nilck (hA 0 rfl) rfl ?_
      exact L.last (G.finD rfl)
    · intro σ' Ωf hsb hA
      refine L.fa Tryz.underlying95 rfl s9 (hA 1 rfl) rfl ?_
      exact L.last (G.finD rfl)
    · intro σ' Ωf hsb hA
      refine L.ld 0 o9 (hA 2 rfl) rfl rfl rfl ?_
      exact L.last (G.finD rfl)
    · intro σ' Ωf hsb hA
      refine L.mv (hsb.get rfl) rfl ?_
      exact L.last (G.finD rfl)
    · intro σ' Ωf hsb hA
      refine L.nilck (hA 4 rfl) rfl ?_
      exact L.last (G.finD rfl)
    · intro σ' Ωf hsb hA
      refine L.fa Tryz.underlying95 rfl s3 (hA 5 rfl) rfl ?_
      exact L.last (G.finD rfl)
    · intro σ' Ωf hsb hA
      refine L.ld 0 o3 (hA 6 rfl) rfl rfl rfl ?_
      exact L.last (G.finD rfl)
    refine L.ixS k Tryz.underlying9 rfl rfl rfl hlt rfl ?_
    refine L.as rfl rfl ?_
    refine L.last ?_
    refine T.go (fun _ _ h => h) ?_
    refine T.ret ?_
    exact G.ret (res1 Tryz.results44 rfl) ⟨by rw [nextB_in hlt], rfl⟩

set_option maxHeartbeats 400000 in
theorem f42 (b : Nat) (s : ByteArray) (k : Nat) (bad : Bool) (hk : k ≤ s.size) (hs : s.size ≤ 1000) : Fc Tryz.prog 42 [P_ b 0] [rd b s k bad] (fun x Ω => x = aB (decide (k < blanksN s k)) ∧ Ω = [rd b s (blanksN s k) bad]) := by
  refine Fc.enter Tryz.func42 rfl Tryz.ntmps42 rfl fun X w => ?_
  refine T.rg ?_
  refine L.as rfl rfl ?_
  refine L.nil ?_
  refine T.rg ?_
  refine L.mv rfl rfl ?_
  refine L.nilck rfl rfl ?_
  refine L.fa Tryz.underlying95 rfl s3 rfl rfl ?_
  refine L.ld 0 o3 rfl rfl rfl rfl ?_
  refine L.as rfl rfl ?_
  refine L.nil ?_
  refine T.of_seq ?_
  refine T.block ?_
  refine T.loop (fun m σ Ω => ∃ j : Nat, k ≤ j ∧ j ≤ s.size ∧ m = s.size - j ∧ blanksN s j = blanksN s k ∧ σ = [(0, aP b 0), (3, aN k)] ∧ Ω = [rd b s j bad]) (s.size - k) _ (⟨k, Nat.le_refl _, hk, rfl, rfl, rfl, rfl⟩) (by repeat constructor) ?_
  rintro m σ Ω ⟨j, hkj, hj, rfl, hb, rfl, rfl⟩
  refine T.of_seq ?_
  refine T.rg ?_
  refine L.mv rfl rfl ?_
  refine L.callO [] [_] [] rfl e44 rfl rfl (f44 b s j bad hj hs) ?_
  rintro _ _ ⟨rfl, rfl⟩
  refine L.cmp rfl rfl rfl rfl ?_
  refine L.nil ?_
  refine T.cond rfl (fun h10 => ?_) (fun h10 => ?_)
  · skip
    have hn : (nextB s j).toNat = 32 := by have := of_decide_eq_true h10; omega
    have hlt : j < s.size := nextB_lt (by intro e; rw [e] at hn; simp at hn)
    rw [nextB_in hlt] at hn
    have hc : (s[j].toNat : Int) = 32 := by omega
    refine T.skip ?_
    refine T.go (fun _ _ h => h) ?_
    refine T.block ?_
    refine T.region ?_
    refine L.mv rfl rfl ?_
    refine L.nilck rfl rfl ?_
    refine L.fa Tryz.underlying95 rfl s3 rfl rfl ?_
    refine L.ld 0 o3 rfl rfl rfl rfl ?_
    refine L.ar ((j + 1 : Nat) : Int) rfl rfl rfl (by omega) rfl ?_
    refine L.nilck rfl rfl ?_
    refine L.fa Tryz.underlying95 rfl s3 rfl rfl ?_
    refine L.sto 0 s3 rfl rfl rfl rfl rfl ?_
    refine L.last ?_
    refine G.round (s.size - (j + 1)) _ (by omega) ⟨j + 1, by omega, by omega, rfl, by rw [← hb, blanksN_yes hlt hc], rfl, rfl⟩ (by repeat constructor)
  · skip
    have hbj : blanksN s j = j := by
      rcases Nat.lt_or_ge j s.size with h1 | h1
      · rw [nextB_in h1] at h10
        exact blanksN_no h1 (by simpa using h10)
      · exact blanksN_end h1
    rw [hbj] at hb
    refine T.exit ?_
    refine T.go (fun _ _ h => h) ?_
    refine T.rg ?_
    refine L.mv rfl rfl ?_
    refine L.nilck rfl rfl ?_
    refine L.fa Tryz.underlying95 rfl s3 rfl rfl ?_
    refine L.ld 0 o3 rfl rfl rfl rfl ?_
    refine L.mv rfl rfl ?_
    refine L.cmp rfl rfl rfl rfl ?_
    refine L.as rfl rfl ?_
    refine L.nil ?_
    refine T.ret ?_
    exact G.ret (res1 Tryz.results42 rfl) ⟨by rw [← hb]; simp, by rw [← hb]; rfl⟩

set_option maxHeartbeats 400000 in
theorem f99 (b : Nat) (s : ByteArray) (k : Nat) (bad : Bool) (hk : k ≤ s.size) (hs : s.size ≤ 1000) (c : UInt8) (hc : c ≠ 0) : Fc Tryz.prog 99 [P_ b 0, B8 c] [rd b s k bad] (fun x Ω => x = .t [] ∧ Ω = [if nextB s k = c then rd b s (k + 1) bad else rd b s k true]) := by
  refine Fc.enter Tryz.func99 rfl Tryz.ntmps99 rfl fun X w => ?_
  refine T.of_seq ?_
  refine T.rg ?_
  refine L.mv rfl rfl ?_
  refine L.callO [] [_] [] rfl e44 rfl rfl (f44 b s k bad hk hs) ?_
  rintro _ _ ⟨rfl, rfl⟩
  refine L.mv rfl rfl ?_
  refine L.cmp rfl rfl rfl rfl ?_
  refine L.nil ?_
  refine T.cond rfl (fun h7 => ?_) (fun h7 => ?_)
  · skip
    have hn : ¬ nextB s k = c := by intro e; rw [e] at h7; simp at h7
    refine T.rg ?_
    refine L.mv rfl rfl ?_
    refine L.nilck rfl rfl ?_
    refine L.fa Tryz.underlying95 rfl s4 rfl rfl ?_
    refine L.sto 0 s4 rfl rfl rfl rfl rfl ?_
    refine L.nil ?_
    refine T.ret ?_
    exact G.ret (res0 Tryz.results99) ⟨rfl, by rw [if_neg hn]; rfl⟩
  · skip
    have hn : nextB s k = c := by simp at h7; exact UInt8.toNat_inj.1 (by omega)
    have hlt : k < s.size := nextB_lt (by rw [hn]; exact hc)
    refine T.skip ?_
    refine T.go (fun _ _ h => h) ?_
    refine T.region ?_
    refine L.mv rfl rfl ?_
    refine L.nilck rfl rfl ?_
    refine L.fa Tryz.underlying95 rfl s3 rfl rfl ?_
    refine L.ld 0 o3 rfl rfl rfl rfl ?_
    refine L.ar ((k + 1 : Nat) : Int) rfl rfl rfl (by omega) rfl ?_
    refine L.nilck rfl rfl ?_
    refine L.fa Tryz.underlying95 rfl s3 rfl rfl ?_
    refine L.sto 0 s3 rfl rfl rfl rfl rfl ?_
    refine L.last ?_
    exact G.end (res0 Tryz.results99) ⟨rfl, by rw [if_pos hn]; rfl⟩

set_option maxHeartbeats 2000000 in
theorem f71 (p : UInt8 → Bool) (chars : ByteArray) (g : FuncId) (may : ByteArray → Bool) (hidx : ∀ t : ByteArray, t.size ≤ 1000000 → Fc Tryz.prog 95 [S_ t, S_ chars] [] fun x Ω => Ω = [] ∧ ∃ z : Int, x = aN z ∧ IdxIs p t z) (hg : enters Tryz.prog g = true) (hmay : ∀ t : ByteArray, t.size ≤ 9223372036854775807 → Fc Tryz.prog g [S_ t] [] (Just (aB (may t)))) (b : Nat) (s : ByteArray) (k : Nat) (hk : k ≤ s.size) (hs : s.size ≤ 1000) : Fc Tryz.prog 71 [P_ b 0, S_ chars, R_ (.func (.func g) #[] #[])] [rd b s k false] (fun x Ω => x = aS (if may (tok p s k) = true then tok p s k else ByteArray.empty) ∧ Ω = [if may (tok p s k) = true then rd b s (k + tokLen p s k) false else rd b s k true]) := by
  refine Fc.enter Tryz.func71 rfl Tryz.ntmps71 rfl fun X w => ?_
  refine T.rg ?_
  refine L.as rfl rfl ?_
  refine L.nil ?_
  refine T.of_seq ?_
  have hts := tok_size p s k hk
  have htl := tokLen_le p s k
  have hse := size_extract' s k s.size (Nat.le_refl _) hk
  refine T.drawD 8 [(0, aP b 0), (1, aS chars), (2, aR (.func (.func g) #[] #[]))] [aP b 0, aP b 0, aP b 0, aS s, aP b 0, aP b 0, aP b 1, aN k] hmixed rfl rfl rfl rfl (by repeat constructor) ⟨?_, ?_, ?_, ?_, ?_, ?_, ?_, ?_, trivial⟩ ?_
  · intro σ' Ωf hsb hA
    refine L.mv (hsb.get rfl) rfl ?_
    exact L.last (G.finD rfl)
  · intro σ' Ωf hsb hA
    refine L.nilck (hA 0 rfl) rfl ?_
    exact L.last (G.finD rfl)
  · intro σ' Ωf hsb hA
    refine L.fa Tryz.underlying95 rfl s9 (hA 1 rfl) rfl ?_
    exact L.last (G.finD rfl)
  · intro σ' Ωf hsb hA
    refine L.ld 0 o9 (hA 2 rfl) rfl rfl rfl ?_
    exact L.last (G.finD rfl)
  · intro σ' Ωf hsb hA
    refine L.mv (hsb.get rfl) rfl ?_
    exact L.last (G.finD rfl)
  · intro σ' Ωf hsb hA
    refine L.nilck (hA 4 rfl) rfl ?_
    exact L.last (G.finD rfl)
  · intro σ' Ωf hsb hA
    refine L.fa Tryz.underlying95 rfl s3 (hA 5 rfl) rfl ?_
    exact L.last (G.finD rfl)
  · intro σ' Ωf hsb hA
    refine L.ld 0 o3 (hA 6 rfl) rfl rfl rfl ?_
    exact L.last (G.finD rfl)
  refine L.slS k s.size Tryz.underlying9 rfl ⟨_, rfl⟩ rfl ⟨hk, Nat.le_refl _⟩ rfl ?_
  refine L.as rfl rfl ?_
  refine L.last ?_
  refine T.go (fun _ _ h => h) ?_
  refine T.of_seq ?_
  refine T.rg ?_
  refine L.mv rfl rfl ?_
  refine L.mv rfl rfl ?_
  refine L.call e95 rfl rfl (hidx _ (by omega)) ?_
  rintro _ _ ⟨rfl, z, rfl, hz⟩
  have hz2 := tok_of_idx hk hz
  refine L.as rfl rfl ?_
  refine L.nil ?_
  refine T.rg ?_
  refine L.mv rfl rfl ?_
  refine L.cmp rfl rfl rfl rfl ?_
  refine L.nil ?_
  refine T.cond rfl (fun h22 => ?_) (fun h22 => ?_)
  · skip
    obtain ⟨k', rfl, hk', he⟩ : ∃ k' : Nat, z = k' ∧ k' ≤ (s.extract k s.size).size ∧ (s.extract k s.size).extract 0 k' = tok p s k := by
      rcases hz2 with ⟨h1, _⟩ | h1
      · rw [h1] at h22; simp at h22
      · exact h1
    refine T.region ?_
    refine L.mv rfl rfl ?_
    refine L.mv rfl rfl ?_
    refine L.slS 0 k' Tryz.underlying9 rfl rfl ⟨_, rfl⟩ ⟨by omega, hk'⟩ rfl ?_
    rw [he]
    refine L.as rfl rfl ?_
    refine L.last ?_
    refine T.go (fun _ _ h => h) ?_
    refine T.of_seq ?_
    refine T.rg ?_
    refine L.mv rfl rfl ?_
    refine L.mv rfl rfl ?_
    refine L.callV [] [] [_] rfl rfl hg rfl rfl rfl (hmay _ (by omega)) ?_
    rintro _ _ ⟨rfl, rfl⟩
    refine L.not rfl rfl ?_
    refine L.nil ?_
    refine T.cond rfl (fun h29 => ?_) (fun h29 => ?_)
    · skip
      have hm : ¬ may (tok p s k) = true := by simpa using h29
      refine T.rg ?_
      refine L.mv rfl rfl ?_
      refine L.nilck rfl rfl ?_
      refine L.fa Tryz.underlying95 rfl s4 rfl rfl ?_
      refine L.sto 0 s4 rfl rfl rfl rfl rfl ?_
      refine L.nil ?_
      refine T.rg ?_
      refine L.as rfl rfl ?_
      refine L.nil ?_
      refine T.ret ?_
      exact G.ret (res1 Tryz.results71 rfl) ⟨by rw [if_neg hm]; rfl, by rw [if_neg hm]; rfl⟩
    · skip
      have hm : may (tok p s k) = true := by simpa using h29
      refine T.skip ?_
      refine T.go (fun _ _ h => h) ?_
      refine T.rg ?_
      refine L.mv rfl rfl ?_
      refine L.nilck rfl rfl ?_
      refine L.fa Tryz.underlying95 rfl s3 rfl rfl ?_
      refine L.ld 0 o3 rfl rfl rfl rfl ?_
      refine L.mv rfl rfl ?_
      refine L.lenS Tryz.underlying9 rfl rfl ?_
      refine L.ar ((k + tokLen p s k : Nat) : Int) rfl rfl rfl (by omega) rfl ?_
      refine L.nilck rfl rfl ?_
      refine L.fa Tryz.underlying95 rfl s3 rfl rfl ?_
      refine L.sto 0 s3 rfl rfl rfl rfl rfl ?_
      refine L.nil ?_
      refine T.rg ?_
      refine L.mv rfl rfl ?_
      refine L.as rfl rfl ?_
      refine L.nil ?_
      refine T.ret ?_
      exact G.ret (res1 Tryz.results71 rfl) ⟨by rw [if_pos hm], by rw [if_pos hm]⟩
  · skip
    have he : s.extract k s.size = tok p s k := by
      rcases hz2 with ⟨_, h1⟩ | ⟨k', h1, _⟩
      · exact h1
      · rw [h1] at h22; simp at h22
    rw [he]
    refine T.skip ?_
    refine T.go (fun _ _ h => h) ?_
    refine T.of_seq ?_
    refine T.rg ?_
    refine L.mv rfl rfl ?_
    refine L.mv rfl rfl ?_
    refine L.callV [] [] [_] rfl rfl hg rfl rfl rfl (hmay _ (by omega)) ?_
    rintro _ _ ⟨rfl, rfl⟩
    refine L.not rfl rfl ?_
    refine L.nil ?_
    refine T.cond rfl (fun h29 => ?_) (fun h29 => ?_)
    · skip
      have hm : ¬ may (tok p s k) = true := by simpa using h29
      refine T.rg ?_
      refine L.mv rfl rfl ?_
      refine L.nilck rfl rfl ?_
      refine L.fa Tryz.underlying95 rfl s4 rfl rfl ?_
      refine L.sto 0 s4 rfl rfl rfl rfl rfl ?_
      refine L.nil ?_
      refine T.rg ?_
      refine L.as rfl rfl ?_
      refine L.nil ?_
      refine T.ret ?_
      exact G.ret (res1 Tryz.results71 rfl) ⟨by rw [if_neg hm]; rfl, by rw [if_neg hm]; rfl⟩
    · skip
      have hm : may (tok p s k) = true := by simpa using h29
      refine T.skip ?_
      refine T.go (fun _ _ h => h) ?_
      refine T.rg ?_
      refine L.mv rfl rfl ?_
      refine L.nilck rfl rfl ?_
      refine L.fa Tryz.underlying95 rfl s3 rfl rfl ?_
      refine L.ld 0 o3 rfl rfl rfl rfl ?_
      refine L.mv rfl rfl ?_
      refine L.lenS Tryz.underlying9 rfl rfl ?_
      refine L.ar ((k + tokLen p s k : Nat) : Int) rfl rfl rfl (by omega) rfl ?_
      refine L.nilck rfl rfl ?_
      refine L.fa Tryz.underlying95 rfl s3 rfl rfl ?_
      refine L.sto 0 s3 rfl rfl rfl rfl rfl ?_
      refine L.nil ?_
      refine T.rg ?_
      refine L.mv rfl rfl ?_
      refine L.as rfl rfl ?_
      refine L.nil ?_
      refine T.ret ?_
      exact G.ret (res1 Tryz.results71 rfl) ⟨by rw [if_pos hm], by rw [if_pos hm]⟩
end Go.Proofs.YtimimkdgofiloaaGreatDoor
