/- slices.Insert of one pair. Printed by gen.py. -/
import Derived.Test.YtimimkdgofiloaaGreatDoorS10
namespace Go.Proofs.YtimimkdgofiloaaGreatDoor
open Go Go.Q
theorem ov71 : isOvl Tryz.prog 130 28 4 := ⟨_, Tryz.func130, by kernel_rfl, by kernel_rfl, by kernel_rfl, by kernel_rfl⟩

set_option maxHeartbeats 400000 in
theorem f124n (p : ByteArray × ByteArray) (g2 : Nat) : Fc Tryz.prog 124 [R_ (.slice none 0 0), N_ 0, R_ (slV g2 0 1 1)] [rawB g2 166 [Value.string p.1, .string p.2]] (fun x Ω2 => ∃ v2, x = aR v2 ∧ MapO 166 2 (pv (.string) ([p])) (1) v2 Ω2) := by
  refine Fc.enter Tryz.func124 rfl Tryz.ntmps124 rfl fun X w => ?_
  refine T.rg ?_
  refine L.as rfl rfl ?_
  refine L.nil ?_
  refine T.rg ?_
  refine L.mv rfl rfl ?_
  refine L.mv rfl rfl ?_
  refine L.slN Tryz.underlying29 s166 rfl rfl rfl ?_
  refine L.nil ?_
  refine T.rg ?_
  refine L.mv rfl rfl ?_
  refine L.lenX Tryz.underlying28 rfl rfl ?_
  refine L.as rfl rfl ?_
  refine L.nil ?_
  refine T.of_seq ?_
  refine T.rg ?_
  refine L.mv rfl rfl ?_
  refine L.cmp rfl rfl rfl rfl ?_
  refine L.nil ?_
  refine T.cond rfl (fun h16 => ?_) (fun h16 => ?_)
  · skip
    exact absurd h16 (by decide)
  · skip
    refine T.skip ?_
    refine T.go (fun _ _ h => h) ?_
    refine T.rg ?_
    refine L.mv rfl rfl ?_
    refine L.lenX Tryz.underlying29 rfl rfl ?_
    refine L.as rfl rfl ?_
    refine L.nil ?_
    refine T.of_seq ?_
    refine T.rg ?_
    refine L.mv rfl rfl ?_
    refine L.mv rfl rfl ?_
    refine L.cmp rfl rfl rfl rfl ?_
    refine L.nil ?_
    refine T.cond rfl (fun h22 => ?_) (fun h22 => ?_)
    · skip
      refine T.rg ?_
      refine L.mv rfl rfl ?_
      refine L.mv rfl rfl ?_
      refine L.apN 0 Tryz.underlying29 Tryz.underlying28 i166 rfl rfl rfl rfl rfl rfl rfl (by decide) ⟨by decide, by decide⟩ rfl fun g' c' rs k1 k2 k3 => ?_
      refine L.as rfl rfl ?_
      refine L.nil ?_
      refine T.ret ?_
      refine G.conv (drop_at (i := 1) rfl rfl) ?_
      exact G.ret (res1 Tryz.results124 rfl) ⟨_, rfl, .inr ⟨g', c', _, rfl, k1, k2, by simp; omega, rfl, rfl⟩⟩
    · skip
      exact absurd h22 (by decide)

set_option maxHeartbeats 4000000 in
theorem f124r (l : List (ByteArray × ByteArray)) (p : ByteArray × ByteArray) (g2 g c : Nat) (cur : List Value) (hc1 : l.length ≤ c) (hc2 : c ≤ maxLen) (hc3 : c * 2 ≤ cur.length) (hus : cur.take (l.length * 2) = pv (.string) l) (hlen : l.length ≤ 1000) (i : Nat) (hi : i ≤ l.length) : Fc Tryz.prog 124 [R_ (slV g 0 l.length c), N_ (i : Int), R_ (slV g2 0 1 1)] [rawB g2 166 [Value.string p.1, .string p.2], rawB g 166 cur] (fun x Ω2 => ∃ v2, x = aR v2 ∧ MapO 166 2 (pv (.string) (l.take i ++ p :: l.drop i)) (l.length + 1) v2 Ω2) := by
  refine Fc.enter Tryz.func124 rfl Tryz.ntmps124 rfl fun X w => ?_
  refine T.rg ?_
  refine L.as rfl rfl ?_
  refine L.nil ?_
  refine T.rg ?_
  refine L.mv rfl rfl ?_
  refine L.mv rfl rfl ?_
  have hcl := cur_len hus
  refine L.slX i l.length _ Tryz.underlying29 s166 rfl ⟨_, rfl⟩ rfl ⟨hi, hc1⟩ rfl rfl ?_
  refine L.nil ?_
  refine T.rg ?_
  refine L.mv rfl rfl ?_
  refine L.lenX Tryz.underlying28 rfl rfl ?_
  refine L.as rfl rfl ?_
  refine L.nil ?_
  refine T.of_seq ?_
  refine T.rg ?_
  refine L.mv rfl rfl ?_
  refine L.cmp rfl rfl rfl rfl ?_
  refine L.nil ?_
  refine T.cond rfl (fun h16 => ?_) (fun h16 => ?_)
  · skip
    exact absurd h16 (by decide)
  · skip
    refine T.skip ?_
    refine T.go (fun _ _ h => h) ?_
    refine T.rg ?_
    refine L.mv rfl rfl ?_
    refine L.lenX Tryz.underlying29 rfl rfl ?_
    refine L.as rfl rfl ?_
    refine L.nil ?_
    refine T.of_seq ?_
    refine T.rg ?_
    refine L.mv rfl rfl ?_
    refine L.mv rfl rfl ?_
    refine L.cmp rfl rfl rfl rfl ?_
    refine L.nil ?_
    refine T.cond rfl (fun h22 => ?_) (fun h22 => ?_)
    · skip
      obtain rfl : i = l.length := by have := of_decide_eq_true h22; omega
      refine T.rg ?_
      refine L.mv rfl rfl ?_
      refine L.mv rfl rfl ?_
      refine L.apX 1 0 Tryz.underlying29 Tryz.underlying28 i166 rfl rfl rfl rfl rfl rfl rfl rfl hc3 hc1 ⟨by omega, by omega⟩ rfl (fun hroom => ⟨_, rfl, ?_⟩) (fun hgrow g' c' rs k1 k2 k3 => ?_)
      · skip
        skip
        refine L.as rfl rfl ?_
        refine L.nil ?_
        refine T.ret ?_
        refine G.conv (drop_at (i := 0) rfl rfl) ?_
        exact G.ret (res1 Tryz.results124 rfl) ⟨_, rfl, .inr ⟨g, c, _, rfl, hroom, hc2, by simp; omega, by rw [hus]; have := ins_all (.string) l p (Nat.le_refl _) (cur.drop (l.length * 2 + 2)); simpa [pv] using this, rfl⟩⟩
      · skip
        skip
        refine L.as rfl rfl ?_
        refine L.nil ?_
        refine T.ret ?_
        refine G.conv (drop_at (i := 1) rfl rfl) ?_
        refine G.conv (drop_at (i := 1) rfl rfl) ?_
        exact G.ret (res1 Tryz.results124 rfl) ⟨_, rfl, .inr ⟨g', c', _, rfl, k1, k2, by simp; omega, by rw [hus]; have := ins_all (.string) l p (Nat.le_refl _) rs; simpa [pv] using this, rfl⟩⟩
    · skip
      have hlt : i < l.length := by have : ¬ i = l.length := (fun e => by rw [e] at h22; simp at h22); omega
      refine T.skip ?_
      refine T.go (fun _ _ h => h) ?_
      refine T.of_seq ?_
      refine T.rg ?_
      refine L.mv rfl rfl ?_
      refine L.mv rfl rfl ?_
      refine L.ar ((l.length + 1 : Nat) : Int) rfl rfl rfl (by omega) rfl ?_
      refine L.mv rfl rfl ?_
      refine L.capX Tryz.underlying29 rfl rfl ?_
      refine L.cmp rfl rfl rfl rfl ?_
      refine L.nil ?_
      refine T.cond rfl (fun h31 => ?_) (fun h31 => ?_)
      · skip
        have hgr : c < l.length + 1 := by have := of_decide_eq_true h31; omega
        refine T.rg ?_
        refine L.mv rfl rfl ?_
        refine L.mv rfl rfl ?_
        refine L.slX 0 i 0 Tryz.underlying29 s166 rfl rfl ⟨_, rfl⟩ ⟨Nat.zero_le _, by omega⟩ (by simp) rfl ?_
        refine L.mv rfl rfl ?_
        refine L.mv rfl rfl ?_
        refine L.ar ((l.length + 1 : Nat) : Int) rfl rfl rfl (by omega) rfl ?_
        refine L.mv rfl rfl ?_
        refine L.ar ((l.length + 1 - i : Nat) : Int) rfl rfl rfl (by omega) rfl ?_
        refine L.apZ (m := i) (c := c) 1 Tryz.underlying29 Tryz.underlying3 i166 rfl rfl rfl rfl rfl (by omega) (by omega) (by omega) ⟨by omega, by omega⟩ rfl fun g' c' rs k1 k2 k3 => ?_
        refine L.as rfl rfl ?_
        refine L.nil ?_
        refine T.rg ?_
        refine L.mv rfl rfl ?_
        refine L.mv rfl rfl ?_
        refine L.slX i (i + (l.length + 1 - i)) (i * 2) Tryz.underlying29 s166 rfl ⟨_, rfl⟩ rfl ⟨by omega, by omega⟩ (by rw [if_neg (by omega)]; omega) rfl ?_
        refine L.mv rfl rfl ?_
        refine L.cpX 0 1 (pv (.string) (l.take i) ++ [Value.string p.1, .string p.2] ++ rs.drop 2) Tryz.underlying29 s166 rfl rfl rfl rfl (us := [Value.string p.1, .string p.2]) (by have : Nat.min 1 (i + (l.length + 1 - i) - i) = 1 := Nat.min_eq_left (by omega); rw [this]; rfl) (by have : Nat.min 1 (i + (l.length + 1 - i) - i) = 1 := Nat.min_eq_left (by omega); rw [this]; rfl) rfl (by simp; omega) (ins_grow hus hi _ rs rfl) rfl rfl ?_
        refine L.nil ?_
        refine T.of_seq ?_
        refine T.drawD 8 [(9, aR (slV g' 0 (i + (l.length + 1 - i)) c')), (1, aN i), (7, aN (1 : Nat)), (0, aR (slV g 0 l.length c))] [aR (slV g' 0 (i + (l.length + 1 - i)) c'), aN i, aN (1 : Nat), aN (i + 1 : Nat), aR (slV g' ((i + 1) * 2) (i + (l.length + 1 - i) - (i + 1)) (c' - (i + 1))), aR (slV g 0 l.length c), aN i, aR (slV g (i * 2) (l.length - i) (c - i))] hmixed rfl rfl rfl rfl (by repeat constructor) ⟨?_, ?_, ?_, ?_, ?_, ?_, ?_, ?_, trivial⟩ ?_
        · intro σ' Ωf hsb hA
          refine L.mv (hsb.get rfl) rfl ?_
          exact L.last (G.finD rfl)
        · intro σ' Ωf hsb hA
          refine L.mv (hsb.get rfl) rfl ?_
          exact L.last (G.finD rfl)
        · intro σ' Ωf hsb hA
          refine L.mv (hsb.get rfl) rfl ?_
          exact L.last (G.finD rfl)
        · intro σ' Ωf hsb hA
          refine L.ar ((i + 1 : Nat) : Int) (hA 1 rfl) (hA 2 rfl) rfl (by omega) rfl ?_
          exact L.last (G.finD rfl)
        · intro σ' Ωf hsb hA
          refine L.slX (i + 1) (i + (l.length + 1 - i)) ((i + 1) * 2) Tryz.underlying29 s166 (hA 0 rfl) ⟨_, hA 3 rfl⟩ rfl ⟨by omega, by omega⟩ (by rw [if_neg (by omega)]; omega) rfl ?_
          exact L.last (G.finD rfl)
        · intro σ' Ωf hsb hA
          refine L.mv (hsb.get rfl) rfl ?_
          exact L.last (G.finD rfl)
        · intro σ' Ωf hsb hA
          refine L.mv (hsb.get rfl) rfl ?_
          exact L.last (G.finD rfl)
        · intro σ' Ωf hsb hA
          refine L.slX i l.length (i * 2) Tryz.underlying29 s166 (hA 5 rfl) ⟨_, hA 6 rfl⟩ rfl ⟨by omega, by omega⟩ (by rw [if_neg (by omega)]; omega) rfl ?_
          exact L.last (G.finD rfl)
        have hmn : Nat.min (l.length - i) (i + (l.length + 1 - i) - (i + 1)) = l.length - i := Nat.min_eq_left (by omega)
        refine L.cpX 0 2 (pv (.string) (l.take i) ++ [Value.string p.1, .string p.2] ++ pv (.string) (l.drop i) ++ (rs.drop 2).drop (pv (.string) (l.drop i)).length) Tryz.underlying29 s166 rfl rfl rfl rfl (us := pv (.string) (l.drop i)) (by rw [hmn]; exact ins_mid hus) (by rw [hmn, pv_len, List.length_drop]) (pv_one _ (fun _ => rfl) _) (by rw [pv_len]; simp [pv_len]; omega) (ins_grow2 _ l hi _ _ _ rfl) rfl rfl ?_
        refine L.last ?_
        refine T.go (fun _ _ h => h) ?_
        refine T.rg ?_
        refine L.mv rfl rfl ?_
        refine L.as rfl rfl ?_
        refine L.nil ?_
        refine T.ret ?_
        refine G.conv (drop_at (i := 1) rfl rfl) ?_
        refine G.conv (drop_at (i := 1) rfl rfl) ?_
        exact G.ret (res1 Tryz.results124 rfl) ⟨_, rfl, .inr ⟨g', c', _, by rw [show i + (l.length + 1 - i) = l.length + 1 by omega], by omega, k2, by simp [pv_len]; omega, ins_all _ l p hi _, rfl⟩⟩
      · skip
        have hrm : l.length + 1 ≤ c := by have := of_decide_eq_false h31; omega
        refine T.skip ?_
        refine T.go (fun _ _ h => h) ?_
        refine T.rg ?_
        refine L.mv rfl rfl ?_
        refine L.mv rfl rfl ?_
        refine L.mv rfl rfl ?_
        refine L.ar ((l.length + 1 : Nat) : Int) rfl rfl rfl (by omega) rfl ?_
        refine L.slX 0 (l.length + 1) 0 Tryz.underlying29 s166 rfl rfl ⟨_, rfl⟩ ⟨Nat.zero_le _, hrm⟩ (by simp) rfl ?_
        refine L.as rfl rfl ?_
        refine L.nil ?_
        refine T.of_seq ?_
        refine T.rg ?_
        refine L.mv rfl rfl ?_
        refine L.mv rfl rfl ?_
        refine L.mv rfl rfl ?_
        refine L.mv rfl rfl ?_
        refine L.ar ((i + 1 : Nat) : Int) rfl rfl rfl (by omega) rfl ?_
        refine L.slX (i + 1) (l.length + 1) ((i + 1) * 2) Tryz.underlying29 s166 rfl ⟨_, rfl⟩ rfl ⟨by omega, by omega⟩ (by rw [if_neg (by omega)]; omega) rfl ?_
        refine L.ovl 0 1 ov71 Tryz.underlying28 s166 rfl rfl rfl rfl (by decide) (by omega) rfl ?_
        refine L.not rfl rfl ?_
        refine L.nil ?_
        refine T.cond rfl (fun h68 => ?_) (fun h68 => ?_)
        · skip
          refine T.of_seq ?_
          refine T.drawD 8 [(0, aR (slV g 0 (l.length + 1) c)), (1, aN i), (7, aN (1 : Nat)), (2, aR (slV g2 0 1 1))] [aR (slV g 0 (l.length + 1) c), aN i, aN (1 : Nat), aN (i + 1 : Nat), aR (slV g ((i + 1) * 2) (l.length + 1 - (i + 1)) (c - (i + 1))), aR (slV g 0 (l.length + 1) c), aN i, aR (slV g (i * 2) (l.length + 1 - i) (c - i))] hmixed rfl rfl rfl rfl (by repeat constructor) ⟨?_, ?_, ?_, ?_, ?_, ?_, ?_, ?_, trivial⟩ ?_
          · intro σ' Ωf hsb hA
            refine L.mv (hsb.get rfl) rfl ?_
            exact L.last (G.finD rfl)
          · intro σ' Ωf hsb hA
            refine L.mv (hsb.get rfl) rfl ?_
            exact L.last (G.finD rfl)
          · intro σ' Ωf hsb hA
            refine L.mv (hsb.get rfl) rfl ?_
            exact L.last (G.finD rfl)
          · intro σ' Ωf hsb hA
            refine L.ar ((i + 1 : Nat) : Int) (hA 1 rfl) (hA 2 rfl) rfl (by omega) rfl ?_
            exact L.last (G.finD rfl)
          · intro σ' Ωf hsb hA
            refine L.slX (i + 1) (l.length + 1) ((i + 1) * 2) Tryz.underlying29 s166 (hA 0 rfl) ⟨_, hA 3 rfl⟩ rfl ⟨by omega, by omega⟩ (by rw [if_neg (by omega)]; omega) rfl ?_
            exact L.last (G.finD rfl)
          · intro σ' Ωf hsb hA
            refine L.mv (hsb.get rfl) rfl ?_
            exact L.last (G.finD rfl)
          · intro σ' Ωf hsb hA
            refine L.mv (hsb.get rfl) rfl ?_
            exact L.last (G.finD rfl)
          · intro σ' Ωf hsb hA
            refine L.slX i (l.length + 1) (i * 2) Tryz.underlying29 s166 (hA 5 rfl) ⟨_, hA 6 rfl⟩ rfl ⟨by omega, by omega⟩ (by rw [if_neg (by omega)]; omega) rfl ?_
            exact L.last (G.finD rfl)
          have hmn : Nat.min (l.length + 1 - i) (l.length + 1 - (i + 1)) = l.length - i := (Nat.min_eq_right (by omega)).trans (by omega)
          refine L.cpX 1 1 (cur.take ((i + 1) * 2) ++ pv (.string) (l.drop i) ++ cur.drop ((i + 1) * 2 + (pv (.string) (l.drop i)).length)) Tryz.underlying29 s166 rfl rfl rfl rfl (us := pv (.string) (l.drop i)) (by rw [hmn]; exact ins_mid hus) (by rw [hmn, pv_len, List.length_drop]) (pv_one _ (fun _ => rfl) _) (by rw [pv_len]; simp; omega) rfl rfl rfl ?_
          refine L.last ?_
          refine T.go (fun _ _ h => h) ?_
          refine T.rg ?_
          refine L.mv rfl rfl ?_
          refine L.mv rfl rfl ?_
          refine L.slX i (l.length + 1) (i * 2) Tryz.underlying29 s166 rfl ⟨_, rfl⟩ rfl ⟨by omega, by omega⟩ (by rw [if_neg (by omega)]; omega) rfl ?_
          refine L.mv rfl rfl ?_
          refine L.cpX 1 0 (pv (.string) (l.take i) ++ [Value.string p.1, .string p.2] ++ pv (.string) (l.drop i) ++ cur.drop ((i + 1) * 2 + (pv (.string) (l.drop i)).length)) Tryz.underlying29 s166 rfl rfl rfl rfl (us := [Value.string p.1, .string p.2]) (by have : Nat.min 1 (l.length + 1 - i) = 1 := Nat.min_eq_left (by omega); rw [this]; rfl) (by have : Nat.min 1 (l.length + 1 - i) = 1 := Nat.min_eq_left (by omega); rw [this]; rfl) rfl (by simp [pv_len]; omega) (ins_room hus hi (by omega) _ _ _ rfl) rfl rfl ?_
          refine L.nil ?_
          refine T.rg ?_
          refine L.mv rfl rfl ?_
          refine L.as rfl rfl ?_
          refine L.nil ?_
          refine T.ret ?_
          refine G.conv (drop_at (i := 0) rfl rfl) ?_
          exact G.ret (res1 Tryz.results124 rfl) ⟨_, rfl, .inr ⟨g, c, _, rfl, hrm, hc2, by simp [pv_len]; omega, ins_all _ l p hi _, rfl⟩⟩
        · skip
          cases h68

theorem ov67 : isOvl Tryz.prog 134 30 4 := ⟨_, Tryz.func134, by kernel_rfl, by kernel_rfl, by kernel_rfl, by kernel_rfl⟩

set_option maxHeartbeats 400000 in
theorem f126n (p : ByteArray × Int) (g2 : Nat) : Fc Tryz.prog 126 [R_ (.slice none 0 0), N_ 0, R_ (slV g2 0 1 1)] [rawB g2 170 [Value.string p.1, .int .i64 p.2]] (fun x Ω2 => ∃ v2, x = aR v2 ∧ MapO 170 2 (pv (.int .i64) ([p])) (1) v2 Ω2) := by
  refine Fc.enter Tryz.func126 rfl Tryz.ntmps126 rfl fun X w => ?_
  refine T.rg ?_
  refine L.as rfl rfl ?_
  refine L.nil ?_
  refine T.rg ?_
  refine L.mv rfl rfl ?_
  refine L.mv rfl rfl ?_
  refine L.slN Tryz.underlying31 s170 rfl rfl rfl ?_
  refine L.nil ?_
  refine T.rg ?_
  refine L.mv rfl rfl ?_
  refine L.lenX Tryz.underlying30 rfl rfl ?_
  refine L.as rfl rfl ?_
  refine L.nil ?_
  refine T.of_seq ?_
  refine T.rg ?_
  refine L.mv rfl rfl ?_
  refine L.cmp rfl rfl rfl rfl ?_
  refine L.nil ?_
  refine T.cond rfl (fun h16 => ?_) (fun h16 => ?_)
  · skip
    exact absurd h16 (by decide)
  · skip
    refine T.skip ?_
    refine T.go (fun _ _ h => h) ?_
    refine T.rg ?_
    refine L.mv rfl rfl ?_
    refine L.lenX Tryz.underlying31 rfl rfl ?_
    refine L.as rfl rfl ?_
    refine L.nil ?_
    refine T.of_seq ?_
    refine T.rg ?_
    refine L.mv rfl rfl ?_
    refine L.mv rfl rfl ?_
    refine L.cmp rfl rfl rfl rfl ?_
    refine L.nil ?_
    refine T.cond rfl (fun h22 => ?_) (fun h22 => ?_)
    · skip
      refine T.rg ?_
      refine L.mv rfl rfl ?_
      refine L.mv rfl rfl ?_
      refine L.apN 0 Tryz.underlying31 Tryz.underlying30 i170 rfl rfl rfl rfl rfl rfl rfl (by decide) ⟨by decide, by decide⟩ rfl fun g' c' rs k1 k2 k3 => ?_
      refine L.as rfl rfl ?_
      refine L.nil ?_
      refine T.ret ?_
      refine G.conv (drop_at (i := 1) rfl rfl) ?_
      exact G.ret (res1 Tryz.results126 rfl) ⟨_, rfl, .inr ⟨g', c', _, rfl, k1, k2, by simp; omega, rfl, rfl⟩⟩
    · skip
      exact absurd h22 (by decide)

set_option maxHeartbeats 4000000 in
theorem f126r (l : List (ByteArray × Int)) (p : ByteArray × Int) (g2 g c : Nat) (cur : List Value) (hc1 : l.length ≤ c) (hc2 : c ≤ maxLen) (hc3 : c * 2 ≤ cur.length) (hus : cur.take (l.length * 2) = pv (.int .i64) l) (hlen : l.length ≤ 1000) (i : Nat) (hi : i ≤ l.length) : Fc Tryz.prog 126 [R_ (slV g 0 l.length c), N_ (i : Int), R_ (slV g2 0 1 1)] [rawB g2 170 [Value.string p.1, .int .i64 p.2], rawB g 170 cur] (fun x Ω2 => ∃ v2, x = aR v2 ∧ MapO 170 2 (pv (.int .i64) (l.take i ++ p :: l.drop i)) (l.length + 1) v2 Ω2) := by
  refine Fc.enter Tryz.func126 rfl Tryz.ntmps126 rfl fun X w => ?_
  refine T.rg ?_
  refine L.as rfl rfl ?_
  refine L.nil ?_
  refine T.rg ?_
  refine L.mv rfl rfl ?_
  refine L.mv rfl rfl ?_
  have hcl := cur_len hus
  refine L.slX i l.length _ Tryz.underlying31 s170 rfl ⟨_, rfl⟩ rfl ⟨hi, hc1⟩ rfl rfl ?_
  refine L.nil ?_
  refine T.rg ?_
  refine L.mv rfl rfl ?_
  refine L.lenX Tryz.underlying30 rfl rfl ?_
  refine L.as rfl rfl ?_
  refine L.nil ?_
  refine T.of_seq ?_
  refine T.rg ?_
  refine L.mv rfl rfl ?_
  refine L.cmp rfl rfl rfl rfl ?_
  refine L.nil ?_
  refine T.cond rfl (fun h16 => ?_) (fun h16 => ?_)
  · skip
    exact absurd h16 (by decide)
  · skip
    refine T.skip ?_
    refine T.go (fun _ _ h => h) ?_
    refine T.rg ?_
    refine L.mv rfl rfl ?_
    refine L.lenX Tryz.underlying31 rfl rfl ?_
    refine L.as rfl rfl ?_
    refine L.nil ?_
    refine T.of_seq ?_
    refine T.rg ?_
    refine L.mv rfl rfl ?_
    refine L.mv rfl rfl ?_
    refine L.cmp rfl rfl rfl rfl ?_
    refine L.nil ?_
    refine T.cond rfl (fun h22 => ?_) (fun h22 => ?_)
    · skip
      obtain rfl : i = l.length := by have := of_decide_eq_true h22; omega
      refine T.rg ?_
      refine L.mv rfl rfl ?_
      refine L.mv rfl rfl ?_
      refine L.apX 1 0 Tryz.underlying31 Tryz.underlying30 i170 rfl rfl rfl rfl rfl rfl rfl rfl hc3 hc1 ⟨by omega, by omega⟩ rfl (fun hroom => ⟨_, rfl, ?_⟩) (fun hgrow g' c' rs k1 k2 k3 => ?_)
      · skip
        skip
        refine L.as rfl rfl ?_
        refine L.nil ?_
        refine T.ret ?_
        refine G.conv (drop_at (i := 0) rfl rfl) ?_
        exact G.ret (res1 Tryz.results126 rfl) ⟨_, rfl, .inr ⟨g, c, _, rfl, hroom, hc2, by simp; omega, by rw [hus]; have := ins_all (.int .i64) l p (Nat.le_refl _) (cur.drop (l.length * 2 + 2)); simpa [pv] using this, rfl⟩⟩
      · skip
        skip
        refine L.as rfl rfl ?_
        refine L.nil ?_
        refine T.ret ?_
        refine G.conv (drop_at (i := 1) rfl rfl) ?_
        refine G.conv (drop_at (i := 1) rfl rfl) ?_
        exact G.ret (res1 Tryz.results126 rfl) ⟨_, rfl, .inr ⟨g', c', _, rfl, k1, k2, by simp; omega, by rw [hus]; have := ins_all (.int .i64) l p (Nat.le_refl _) rs; simpa [pv] using this, rfl⟩⟩
    · skip
      have hlt : i < l.length := by have : ¬ i = l.length := (fun e => by rw [e] at h22; simp at h22); omega
      refine T.skip ?_
      refine T.go (fun _ _ h => h) ?_
      refine T.of_seq ?_
      refine T.rg ?_
      refine L.mv rfl rfl ?_
      refine L.mv rfl rfl ?_
      refine L.ar ((l.length + 1 : Nat) : Int) rfl rfl rfl (by omega) rfl ?_
      refine L.mv rfl rfl ?_
      refine L.capX Tryz.underlying31 rfl rfl ?_
      refine L.cmp rfl rfl rfl rfl ?_
      refine L.nil ?_
      refine T.cond rfl (fun h31 => ?_) (fun h31 => ?_)
      · skip
        have hgr : c < l.length + 1 := by have := of_decide_eq_true h31; omega
        refine T.rg ?_
        refine L.mv rfl rfl ?_
        refine L.mv rfl rfl ?_
        refine L.slX 0 i 0 Tryz.underlying31 s170 rfl rfl ⟨_, rfl⟩ ⟨Nat.zero_le _, by omega⟩ (by simp) rfl ?_
        refine L.mv rfl rfl ?_
        refine L.mv rfl rfl ?_
        refine L.ar ((l.length + 1 : Nat) : Int) rfl rfl rfl (by omega) rfl ?_
        refine L.mv rfl rfl ?_
        refine L.ar ((l.length + 1 - i : Nat) : Int) rfl rfl rfl (by omega) rfl ?_
        refine L.apZ (m := i) (c := c) 1 Tryz.underlying31 Tryz.underlying3 i170 rfl rfl rfl rfl rfl (by omega) (by omega) (by omega) ⟨by omega, by omega⟩ rfl fun g' c' rs k1 k2 k3 => ?_
        refine L.as rfl rfl ?_
        refine L.nil ?_
        refine T.rg ?_
        refine L.mv rfl rfl ?_
        refine L.mv rfl rfl ?_
        refine L.slX i (i + (l.length + 1 - i)) (i * 2) Tryz.underlying31 s170 rfl ⟨_, rfl⟩ rfl ⟨by omega, by omega⟩ (by rw [if_neg (by omega)]; omega) rfl ?_
        refine L.mv rfl rfl ?_
        refine L.cpX 0 1 (pv (.int .i64) (l.take i) ++ [Value.string p.1, .int .i64 p.2] ++ rs.drop 2) Tryz.underlying31 s170 rfl rfl rfl rfl (us := [Value.string p.1, .int .i64 p.2]) (by have : Nat.min 1 (i + (l.length + 1 - i) - i) = 1 := Nat.min_eq_left (by omega); rw [this]; rfl) (by have : Nat.min 1 (i + (l.length + 1 - i) - i) = 1 := Nat.min_eq_left (by omega); rw [this]; rfl) rfl (by simp; omega) (ins_grow hus hi _ rs rfl) rfl rfl ?_
        refine L.nil ?_
        refine T.of_seq ?_
        refine T.drawD 8 [(9, aR (slV g' 0 (i + (l.length + 1 - i)) c')), (1, aN i), (7, aN (1 : Nat)), (0, aR (slV g 0 l.length c))] [aR (slV g' 0 (i + (l.length + 1 - i)) c'), aN i, aN (1 : Nat), aN (i + 1 : Nat), aR (slV g' ((i + 1) * 2) (i + (l.length + 1 - i) - (i + 1)) (c' - (i + 1))), aR (slV g 0 l.length c), aN i, aR (slV g (i * 2) (l.length - i) (c - i))] hmixed rfl rfl rfl rfl (by repeat constructor) ⟨?_, ?_, ?_, ?_, ?_, ?_, ?_, ?_, trivial⟩ ?_
        · intro σ' Ωf hsb hA
          refine L.mv (hsb.get rfl) rfl ?_
          exact L.last (G.finD rfl)
        · intro σ' Ωf hsb hA
          refine L.mv (hsb.get rfl) rfl ?_
          exact L.last (G.finD rfl)
        · intro σ' Ωf hsb hA
          refine L.mv (hsb.get rfl) rfl ?_
          exact L.last (G.finD rfl)
        · intro σ' Ωf hsb hA
          refine L.ar ((i + 1 : Nat) : Int) (hA 1 rfl) (hA 2 rfl) rfl (by omega) rfl ?_
          exact L.last (G.finD rfl)
        · intro σ' Ωf hsb hA
          refine L.slX (i + 1) (i + (l.length + 1 - i)) ((i + 1) * 2) Tryz.underlying31 s170 (hA 0 rfl) ⟨_, hA 3 rfl⟩ rfl ⟨by omega, by omega⟩ (by rw [if_neg (by omega)]; omega) rfl ?_
          exact L.last (G.finD rfl)
        · intro σ' Ωf hsb hA
          refine L.mv (hsb.get rfl) rfl ?_
          exact L.last (G.finD rfl)
        · intro σ' Ωf hsb hA
          refine L.mv (hsb.get rfl) rfl ?_
          exact L.last (G.finD rfl)
        · intro σ' Ωf hsb hA
          refine L.slX i l.length (i * 2) Tryz.underlying31 s170 (hA 5 rfl) ⟨_, hA 6 rfl⟩ rfl ⟨by omega, by omega⟩ (by rw [if_neg (by omega)]; omega) rfl ?_
          exact L.last (G.finD rfl)
        have hmn : Nat.min (l.length - i) (i + (l.length + 1 - i) - (i + 1)) = l.length - i := Nat.min_eq_left (by omega)
        refine L.cpX 0 2 (pv (.int .i64) (l.take i) ++ [Value.string p.1, .int .i64 p.2] ++ pv (.int .i64) (l.drop i) ++ (rs.drop 2).drop (pv (.int .i64) (l.drop i)).length) Tryz.underlying31 s170 rfl rfl rfl rfl (us := pv (.int .i64) (l.drop i)) (by rw [hmn]; exact ins_mid hus) (by rw [hmn, pv_len, List.length_drop]) (pv_one _ (fun _ => rfl) _) (by rw [pv_len]; simp [pv_len]; omega) (ins_grow2 _ l hi _ _ _ rfl) rfl rfl ?_
        refine L.last ?_
        refine T.go (fun _ _ h => h) ?_
        refine T.rg ?_
        refine L.mv rfl rfl ?_
        refine L.as rfl rfl ?_
        refine L.nil ?_
        refine T.ret ?_
        refine G.conv (drop_at (i := 1) rfl rfl) ?_
        refine G.conv (drop_at (i := 1) rfl rfl) ?_
        exact G.ret (res1 Tryz.results126 rfl) ⟨_, rfl, .inr ⟨g', c', _, by rw [show i + (l.length + 1 - i) = l.length + 1 by omega], by omega, k2, by simp [pv_len]; omega, ins_all _ l p hi _, rfl⟩⟩
      · skip
        have hrm : l.length + 1 ≤ c := by have := of_decide_eq_false h31; omega
        refine T.skip ?_
        refine T.go (fun _ _ h => h) ?_
        refine T.rg ?_
        refine L.mv rfl rfl ?_
        refine L.mv rfl rfl ?_
        refine L.mv rfl rfl ?_
        refine L.ar ((l.length + 1 : Nat) : Int) rfl rfl rfl (by omega) rfl ?_
        refine L.slX 0 (l.length + 1) 0 Tryz.underlying31 s170 rfl rfl ⟨_, rfl⟩ ⟨Nat.zero_le _, hrm⟩ (by simp) rfl ?_
        refine L.as rfl rfl ?_
        refine L.nil ?_
        refine T.of_seq ?_
        refine T.rg ?_
        refine L.mv rfl rfl ?_
        refine L.mv rfl rfl ?_
        refine L.mv rfl rfl ?_
        refine L.mv rfl rfl ?_
        refine L.ar ((i + 1 : Nat) : Int) rfl rfl rfl (by omega) rfl ?_
        refine L.slX (i + 1) (l.length + 1) ((i + 1) * 2) Tryz.underlying31 s170 rfl ⟨_, rfl⟩ rfl ⟨by omega, by omega⟩ (by rw [if_neg (by omega)]; omega) rfl ?_
        refine L.ovl 0 1 ov67 Tryz.underlying30 s170 rfl rfl rfl rfl (by decide) (by omega) rfl ?_
        refine L.not rfl rfl ?_
        refine L.nil ?_
        refine T.cond rfl (fun h68 => ?_) (fun h68 => ?_)
        · skip
          refine T.of_seq ?_
          refine T.drawD 8 [(0, aR (slV g 0 (l.length + 1) c)), (1, aN i), (7, aN (1 : Nat)), (2, aR (slV g2 0 1 1))] [aR (slV g 0 (l.length + 1) c), aN i, aN (1 : Nat), aN (i + 1 : Nat), aR (slV g ((i + 1) * 2) (l.length + 1 - (i + 1)) (c - (i + 1))), aR (slV g 0 (l.length + 1) c), aN i, aR (slV g (i * 2) (l.length + 1 - i) (c - i))] hmixed rfl rfl rfl rfl (by repeat constructor) ⟨?_, ?_, ?_, ?_, ?_, ?_, ?_, ?_, trivial⟩ ?_
          · intro σ' Ωf hsb hA
            refine L.mv (hsb.get rfl) rfl ?_
            exact L.last (G.finD rfl)
          · intro σ' Ωf hsb hA
            refine L.mv (hsb.get rfl) rfl ?_
            exact L.last (G.finD rfl)
          · intro σ' Ωf hsb hA
            refine L.mv (hsb.get rfl) rfl ?_
            exact L.last (G.finD rfl)
          · intro σ' Ωf hsb hA
            refine L.ar ((i + 1 : Nat) : Int) (hA 1 rfl) (hA 2 rfl) rfl (by omega) rfl ?_
            exact L.last (G.finD rfl)
          · intro σ' Ωf hsb hA
            refine L.slX (i + 1) (l.length + 1) ((i + 1) * 2) Tryz.underlying31 s170 (hA 0 rfl) ⟨_, hA 3 rfl⟩ rfl ⟨by omega, by omega⟩ (by rw [if_neg (by omega)]; omega) rfl ?_
            exact L.last (G.finD rfl)
          · intro σ' Ωf hsb hA
            refine L.mv (hsb.get rfl) rfl ?_
            exact L.last (G.finD rfl)
          · intro σ' Ωf hsb hA
            refine L.mv (hsb.get rfl) rfl ?_
            exact L.last (G.finD rfl)
          · intro σ' Ωf hsb hA
            refine L.slX i (l.length + 1) (i * 2) Tryz.underlying31 s170 (hA 5 rfl) ⟨_, hA 6 rfl⟩ rfl ⟨by omega, by omega⟩ (by rw [if_neg (by omega)]; omega) rfl ?_
            exact L.last (G.finD rfl)
          have hmn : Nat.min (l.length + 1 - i) (l.length + 1 - (i + 1)) = l.length - i := (Nat.min_eq_right (by omega)).trans (by omega)
          refine L.cpX 1 1 (cur.take ((i + 1) * 2) ++ pv (.int .i64) (l.drop i) ++ cur.drop ((i + 1) * 2 + (pv (.int .i64) (l.drop i)).length)) Tryz.underlying31 s170 rfl rfl rfl rfl (us := pv (.int .i64) (l.drop i)) (by rw [hmn]; exact ins_mid hus) (by rw [hmn, pv_len, List.length_drop]) (pv_one _ (fun _ => rfl) _) (by rw [pv_len]; simp; omega) rfl rfl rfl ?_
          refine L.last ?_
          refine T.go (fun _ _ h => h) ?_
          refine T.rg ?_
          refine L.mv rfl rfl ?_
          refine L.mv rfl rfl ?_
          refine L.slX i (l.length + 1) (i * 2) Tryz.underlying31 s170 rfl ⟨_, rfl⟩ rfl ⟨by omega, by omega⟩ (by rw [if_neg (by omega)]; omega) rfl ?_
          refine L.mv rfl rfl ?_
          refine L.cpX 1 0 (pv (.int .i64) (l.take i) ++ [Value.string p.1, .int .i64 p.2] ++ pv (.int .i64) (l.drop i) ++ cur.drop ((i + 1) * 2 + (pv (.int .i64) (l.drop i)).length)) Tryz.underlying31 s170 rfl rfl rfl rfl (us := [Value.string p.1, .int .i64 p.2]) (by have : Nat.min 1 (l.length + 1 - i) = 1 := Nat.min_eq_left (by omega); rw [this]; rfl) (by have : Nat.min 1 (l.length + 1 - i) = 1 := Nat.min_eq_left (by omega); rw [this]; rfl) rfl (by simp [pv_len]; omega) (ins_room hus hi (by omega) _ _ _ rfl) rfl rfl ?_
          refine L.nil ?_
          refine T.rg ?_
          refine L.mv rfl rfl ?_
          refine L.as rfl rfl ?_
          refine L.nil ?_
          refine T.ret ?_
          refine G.conv (drop_at (i := 0) rfl rfl) ?_
          exact G.ret (res1 Tryz.results126 rfl) ⟨_, rfl, .inr ⟨g, c, _, rfl, hrm, hc2, by simp [pv_len]; omega, ins_all _ l p hi _, rfl⟩⟩
        · skip
          cases h68
end Go.Proofs.YtimimkdgofiloaaGreatDoor
