/- The notation's words and texts. Printed by gen.py. -/
import Derived.Test.YtimimkdgofiloaaGreatDoorS60
import Derived.Test.YtimimkdgofiloaaGreatDoorS12
namespace Go.Proofs.YtimimkdgofiloaaGreatDoor
open Go Go.Q
theorem bys_length (t : ByteArray) : (bys t).length = t.data.toList.length := by simp [bys]
theorem bysT_get {t : ByteArray} {q : Nat} (h : q < t.data.toList.length) : (bys t)[q]? = some [.i .u8 ((t.data.toList[q].toNat : Nat) : Int)] := by rw [bys, List.getElem?_map, List.getElem?_eq_getElem h]; rfl
/-- A view as cells of data. -/
def ViewIs (x : AV) : Prop := ∃ ds : List Go.Q.D, ds.length = 14 ∧ x = .v (.g (ds.map .d))
set_option maxHeartbeats 2000000 in
theorem f93 (b : Nat) (s : ByteArray) (k : Nat) (d : Int) (hk : k ≤ s.size) (hs : s.size ≤ 1000) : FcP Tryz.prog 93 [P_ b 0] [rn b s k d] (fun x Ω => ∃ (t : ByteArray) (a j : Nat), x = .t [S_ t, N_ (a : Nat)] ∧ 0 < t.size ∧ t.size ≤ s.size ∧ k < j ∧ j ≤ s.size ∧ Ω = [rn b s j d]) (Wr) := by
  refine FcP.enter Tryz.func93 rfl Tryz.ntmps93 rfl fun X w => ?_
  refine T.rg ?_
  refine L.as rfl rfl ?_
  refine L.as rfl rfl ?_
  refine L.nil ?_
  refine T.rg ?_
  refine L.mv rfl rfl ?_
  refine L.callO [] [_] [] rfl e40 rfl rfl (f40 b s k d hk hs) ?_
  rintro _ _ ⟨rfl, rfl⟩
  obtain ⟨a, ha⟩ : ∃ a, blanksN s k = a := ⟨_, rfl⟩
  have hka : k ≤ a := ha ▸ blanksN_ge s k
  have has : a ≤ s.size := ha ▸ blanksN_le hk
  rw [ha]
  clear ha
  refine L.nil ?_
  refine T.rg ?_
  refine L.mv rfl rfl ?_
  refine L.nilck rfl rfl ?_
  refine L.fa Tryz.underlying90 rfl s3 rfl rfl ?_
  refine L.ld 0 o3 rfl rfl rfl rfl ?_
  refine L.as rfl rfl ?_
  refine L.nil ?_
  refine T.of_seq ?_
  refine T.block ?_
  refine T.loop (fun m σ Ω => ∃ j : Nat, a ≤ j ∧ j ≤ s.size ∧ m = s.size - j ∧ σ = [(4, aN (a : Nat)), (0, aP b 0)] ∧ Ω = [rn b s j d]) (s.size - a) _ (⟨a, Nat.le_refl _, has, rfl, rfl, rfl⟩) (by repeat constructor) ?_
  rintro m σ Ω ⟨j, haj, hj, rfl, rfl, rfl⟩
  refine T.of_seq ?_
  refine T.of_seq ?_
  rcases Nat.lt_or_ge j s.size with hlt | hge
  · skip
    refine T.drawGD 19 [(0, aP b 0), (4, aN (a : Nat))] [aP b 0, aP b 0, aP b 1, aN (j : Nat), aP b 0, aP b 0, aP b 0, aS s, aN (s.size : Nat), aB true, aB true, aP b 0, aP b 0, aP b 0, aS s, aP b 0, aP b 0, aP b 1, aN (j : Nat)] hmixed rfl rfl rfl rfl (by repeat constructor) ⟨?_, ?_, ?_, ?_, ?_, ?_, ?_, ?_, ?_, ?_, ?_, ?_, ?_, ?_, ?_, ?_, ?_, ?_, ?_, trivial⟩ ?_
    · intro σ' Ωf hsb hA
      refine L.mv (hsb.get rfl) rfl ?_
      exact L.last (G.finGD rfl)
    · intro σ' Ωf hsb hA
      refine L.nilck (hA 0 rfl) rfl ?_
      exact L.last (G.finGD rfl)
    · intro σ' Ωf hsb hA
      refine L.fa Tryz.underlying90 rfl s3 (hA 1 rfl) rfl ?_
      exact L.last (G.finGD rfl)
    · intro σ' Ωf hsb hA
      refine L.ld 0 o3 (hA 2 rfl) rfl rfl rfl ?_
      exact L.last (G.finGD rfl)
    · intro σ' Ωf hsb hA
      refine L.mv (hsb.get rfl) rfl ?_
      exact L.last (G.finGD rfl)
    · intro σ' Ωf hsb hA
      refine L.nilck (hA 4 rfl) rfl ?_
      exact L.last (G.finGD rfl)
    · intro σ' Ωf hsb hA
      refine L.fa Tryz.underlying90 rfl s9 (hA 5 rfl) rfl ?_
      exact L.last (G.finGD rfl)
    · intro σ' Ωf hsb hA
      refine L.ld 0 o9 (hA 6 rfl) rfl rfl rfl ?_
      exact L.last (G.finGD rfl)
    · intro σ' Ωf hsb hA
      refine L.lenS Tryz.underlying9 (hA 7 rfl) rfl ?_
      exact L.last (G.finGD rfl)
    · intro σ' Ωf hsb hA
      refine L.cmp (r := true) (hA 3 rfl) (hA 8 rfl) (congrArg some (decide_eq_true (by omega))) rfl ?_
      exact L.last (G.finGD rfl)
    · intro σ' Ωf hsb hA
      refine L.mv (hA 9 rfl) rfl ?_
      exact L.last (G.finGD rfl)
    · intro σ' Ωf hsb hA
      refine L.on rfl (hA 10 rfl) ?_
      refine L.mv (hsb.get rfl) rfl ?_
      exact L.last (G.finGD rfl)
    · intro σ' Ωf hsb hA
      refine L.on rfl (hA 10 rfl) ?_
      refine L.nilck (hA 11 rfl) rfl ?_
      exact L.last (G.finGD rfl)
    · intro σ' Ωf hsb hA
      refine L.on rfl (hA 10 rfl) ?_
      refine L.fa Tryz.underlying90 rfl s9 (hA 12 rfl) rfl ?_
      exact L.last (G.finGD rfl)
    · intro σ' Ωf hsb hA
      refine L.on rfl (hA 10 rfl) ?_
      refine L.ld 0 o9 (hA 13 rfl) rfl rfl rfl ?_
      exact L.last (G.finGD rfl)
    · intro σ' Ωf hsb hA
      refine L.on rfl (hA 10 rfl) ?_
      refine L.mv (hsb.get rfl) rfl ?_
      exact L.last (G.finGD rfl)
    · intro σ' Ωf hsb hA
      refine L.on rfl (hA 10 rfl) ?_
      refine L.nilck (hA 15 rfl) rfl ?_
      exact L.last (G.finGD rfl)
    · intro σ' Ωf hsb hA
      refine L.on rfl (hA 10 rfl) ?_
      refine L.fa Tryz.underlying90 rfl s3 (hA 16 rfl) rfl ?_
      exact L.last (G.finGD rfl)
    · intro σ' Ωf hsb hA
      refine L.on rfl (hA 10 rfl) ?_
      refine L.ld 0 o3 (hA 17 rfl) rfl rfl rfl ?_
      exact L.last (G.finGD rfl)
    refine L.on rfl rfl ?_
    refine L.ixS j Tryz.underlying9 rfl rfl rfl hlt rfl ?_
    refine L.on rfl rfl ?_
    refine L.call e105 rfl rfl (f105 _) ?_
    rintro _ _ ⟨rfl, bb, rfl⟩
    refine L.pkT rfl rfl rfl ?_
    refine L.last ?_
    refine T.go (fun _ _ h => h) ?_
    refine T.cond rfl (fun h32 => ?_) (fun h32 => ?_)
    · skip
      refine T.skip ?_
      refine T.go (fun _ _ h => h) ?_
      refine T.block ?_
      refine T.region ?_
      refine L.mv rfl rfl ?_
      refine L.nilck rfl rfl ?_
      refine L.fa Tryz.underlying90 rfl s3 rfl rfl ?_
      refine L.ld 0 o3 rfl rfl rfl rfl ?_
      refine L.ar ((j + 1 : Nat) : Int) rfl rfl rfl (by omega) rfl ?_
      refine L.nilck rfl rfl ?_
      refine L.fa Tryz.underlying90 rfl s3 rfl rfl ?_
      refine L.sto 0 s3 rfl rfl rfl rfl rfl ?_
      refine L.last ?_
      refine G.round (s.size - (j + 1)) _ (by omega) ⟨j + 1, by omega, by omega, rfl, rfl, rfl⟩ (by repeat constructor)
    · skip
      refine T.exit ?_
      refine T.go (fun _ _ h => h) ?_
      refine T.of_seq ?_
      refine T.rg ?_
      refine L.mv rfl rfl ?_
      refine L.mv rfl rfl ?_
      refine L.nilck rfl rfl ?_
      refine L.fa Tryz.underlying90 rfl s3 rfl rfl ?_
      refine L.ld 0 o3 rfl rfl rfl rfl ?_
      refine L.cmp rfl rfl rfl rfl ?_
      refine L.nil ?_
      refine T.cond rfl (fun h45 => ?_) (fun h45 => ?_)
      · skip
        refine T.region ?_
        refine L.mv rfl rfl ?_
        refine L.callP [] [] [_] rfl e41 rfl rfl (f41 _ _) (fun u hu => G.pan ⟨_, _, hu⟩) ?_
        exact fun _ _ h => h.elim
      · skip
        have hne : a ≠ j := by have := of_decide_eq_false h45; omega
        refine T.skip ?_
        refine T.go (fun _ _ h => h) ?_
        refine T.of_seq ?_
        refine T.drawD 12 [(0, aP b 0), (4, aN (a : Nat))] [aP b 0, aP b 0, aP b 0, aS s, aN (a : Nat), aP b 0, aP b 0, aP b 1, aN (j : Nat), aS (s.extract a j), aN (a : Nat), aS (s.extract a j)] hmixed rfl rfl rfl rfl (by repeat constructor) ⟨?_, ?_, ?_, ?_, ?_, ?_, ?_, ?_, ?_, ?_, ?_, ?_, trivial⟩ ?_
        · intro σ' Ωf hsb hA
          refine L.mv (hsb.get rfl) rfl ?_
          exact L.last (G.finD rfl)
        · intro σ' Ωf hsb hA
          refine L.nilck (hA 0 rfl) rfl ?_
          exact L.last (G.finD rfl)
        · intro σ' Ωf hsb hA
          refine L.fa Tryz.underlying90 rfl s9 (hA 1 rfl) rfl ?_
          exact L.last (G.finD rfl)
        · intro σ' Ωf hsb hA
          refine L.ld 0 o9 (hA 2 rfl) rfl rfl rfl ?_
          exact L.last (G.finD rfl)
        · intro σ' Ωf hsb hA
          refine L.mv (hsb.get rfl) rfl ?_
          exact L.last (G.finD rfl)
        · intro σ' Ωf hsb hA
          refine L.mv (hsb.get rfl) rfl ?_
          exact L.last (G.finD rfl)
        · intro σ' Ωf hsb hA
          refine L.nilck (hA 5 rfl) rfl ?_
          exact L.last (G.finD rfl)
        · intro σ' Ωf hsb hA
          refine L.fa Tryz.underlying90 rfl s3 (hA 6 rfl) rfl ?_
          exact L.last (G.finD rfl)
        · intro σ' Ωf hsb hA
          refine L.ld 0 o3 (hA 7 rfl) rfl rfl rfl ?_
          exact L.last (G.finD rfl)
        · intro σ' Ωf hsb hA
          refine L.slS a j Tryz.underlying9 (hA 3 rfl) ⟨_, hA 4 rfl⟩ ⟨_, hA 8 rfl⟩ ⟨by omega, by omega⟩ rfl ?_
          exact L.last (G.finD rfl)
        · intro σ' Ωf hsb hA
          refine L.mv (hsb.get rfl) rfl ?_
          exact L.last (G.finD rfl)
        · intro σ' Ωf hsb hA
          refine L.as (hA 9 rfl) rfl ?_
          exact L.last (G.finD rfl)
        refine L.as rfl rfl ?_
        refine L.last ?_
        refine T.go (fun _ _ h => h) ?_
        refine T.ret ?_
        refine G.toP ?_
        exact G.ret (res2 Tryz.results93 rfl rfl) ⟨_, a, j, rfl, by rw [ByteArray.size_extract]; omega, by rw [ByteArray.size_extract]; omega, by omega, hj, rfl⟩
  · skip
    refine T.drawGD 19 [(0, aP b 0), (4, aN (a : Nat))] [aP b 0, aP b 0, aP b 1, aN (j : Nat), aP b 0, aP b 0, aP b 0, aS s, aN (s.size : Nat), aB false, aB false, .t [], .t [], .t [], .t [], .t [], .t [], .t [], .t []] hmixed rfl rfl rfl rfl (by repeat constructor) ⟨?_, ?_, ?_, ?_, ?_, ?_, ?_, ?_, ?_, ?_, ?_, ?_, ?_, ?_, ?_, ?_, ?_, ?_, ?_, trivial⟩ ?_
    · intro σ' Ωf hsb hA
      refine L.mv (hsb.get rfl) rfl ?_
      exact L.last (G.finGD rfl)
    · intro σ' Ωf hsb hA
      refine L.nilck (hA 0 rfl) rfl ?_
      exact L.last (G.finGD rfl)
    · intro σ' Ωf hsb hA
      refine L.fa Tryz.underlying90 rfl s3 (hA 1 rfl) rfl ?_
      exact L.last (G.finGD rfl)
    · intro σ' Ωf hsb hA
      refine L.ld 0 o3 (hA 2 rfl) rfl rfl rfl ?_
      exact L.last (G.finGD rfl)
    · intro σ' Ωf hsb hA
      refine L.mv (hsb.get rfl) rfl ?_
      exact L.last (G.finGD rfl)
    · intro σ' Ωf hsb hA
      refine L.nilck (hA 4 rfl) rfl ?_
      exact L.last (G.finGD rfl)
    · intro σ' Ωf hsb hA
      refine L.fa Tryz.underlying90 rfl s9 (hA 5 rfl) rfl ?_
      exact L.last (G.finGD rfl)
    · intro σ' Ωf hsb hA
      refine L.ld 0 o9 (hA 6 rfl) rfl rfl rfl ?_
      exact L.last (G.finGD rfl)
    · intro σ' Ωf hsb hA
      refine L.lenS Tryz.underlying9 (hA 7 rfl) rfl ?_
      exact L.last (G.finGD rfl)
    · intro σ' Ωf hsb hA
      refine L.cmp (r := false) (hA 3 rfl) (hA 8 rfl) (congrArg some (decide_eq_false (by omega))) rfl ?_
      exact L.last (G.finGD rfl)
    · intro σ' Ωf hsb hA
      refine L.mv (hA 9 rfl) rfl ?_
      exact L.last (G.finGD rfl)
    · intro σ' Ωf hsb hA
      refine L.off rfl (hA 10 rfl) rfl rfl ?_
      exact L.last (G.finGD rfl)
    · intro σ' Ωf hsb hA
      refine L.off rfl (hA 10 rfl) rfl rfl ?_
      exact L.last (G.finGD rfl)
    · intro σ' Ωf hsb hA
      refine L.off rfl (hA 10 rfl) rfl rfl ?_
      exact L.last (G.finGD rfl)
    · intro σ' Ωf hsb hA
      refine L.off rfl (hA 10 rfl) rfl rfl ?_
      exact L.last (G.finGD rfl)
    · intro σ' Ωf hsb hA
      refine L.off rfl (hA 10 rfl) rfl rfl ?_
      exact L.last (G.finGD rfl)
    · intro σ' Ωf hsb hA
      refine L.off rfl (hA 10 rfl) rfl rfl ?_
      exact L.last (G.finGD rfl)
    · intro σ' Ωf hsb hA
      refine L.off rfl (hA 10 rfl) rfl rfl ?_
      exact L.last (G.finGD rfl)
    · intro σ' Ωf hsb hA
      refine L.off rfl (hA 10 rfl) rfl rfl ?_
      exact L.last (G.finGD rfl)
    refine L.off rfl rfl rfl rfl ?_
    refine L.off rfl rfl rfl rfl ?_
    refine L.pkF rfl rfl rfl ?_
    refine L.last ?_
    refine T.go (fun _ _ h => h) ?_
    refine T.condF rfl ?_
    refine T.exit ?_
    refine T.go (fun _ _ h => h) ?_
    refine T.of_seq ?_
    refine T.rg ?_
    refine L.mv rfl rfl ?_
    refine L.mv rfl rfl ?_
    refine L.nilck rfl rfl ?_
    refine L.fa Tryz.underlying90 rfl s3 rfl rfl ?_
    refine L.ld 0 o3 rfl rfl rfl rfl ?_
    refine L.cmp rfl rfl rfl rfl ?_
    refine L.nil ?_
    refine T.cond rfl (fun h45 => ?_) (fun h45 => ?_)
    · skip
      refine T.region ?_
      refine L.mv rfl rfl ?_
      refine L.callP [] [] [_] rfl e41 rfl rfl (f41 _ _) (fun u hu => G.pan ⟨_, _, hu⟩) ?_
      exact fun _ _ h => h.elim
    · skip
      have hne : a ≠ j := by have := of_decide_eq_false h45; omega
      refine T.skip ?_
      refine T.go (fun _ _ h => h) ?_
      refine T.of_seq ?_
      refine T.drawD 12 [(0, aP b 0), (4, aN (a : Nat))] [aP b 0, aP b 0, aP b 0, aS s, aN (a : Nat), aP b 0, aP b 0, aP b 1, aN (j : Nat), aS (s.extract a j), aN (a : Nat), aS (s.extract a j)] hmixed rfl rfl rfl rfl (by repeat constructor) ⟨?_, ?_, ?_, ?_, ?_, ?_, ?_, ?_, ?_, ?_, ?_, ?_, trivial⟩ ?_
      · intro σ' Ωf hsb hA
        refine L.mv (hsb.get rfl) rfl ?_
        exact L.last (G.finD rfl)
      · intro σ' Ωf hsb hA
        refine L.nilck (hA 0 rfl) rfl ?_
        exact L.last (G.finD rfl)
      · intro σ' Ωf hsb hA
        refine L.fa Tryz.underlying90 rfl s9 (hA 1 rfl) rfl ?_
        exact L.last (G.finD rfl)
      · intro σ' Ωf hsb hA
        refine L.ld 0 o9 (hA 2 rfl) rfl rfl rfl ?_
        exact L.last (G.finD rfl)
      · intro σ' Ωf hsb hA
        refine L.mv (hsb.get rfl) rfl ?_
        exact L.last (G.finD rfl)
      · intro σ' Ωf hsb hA
        refine L.mv (hsb.get rfl) rfl ?_
        exact L.last (G.finD rfl)
      · intro σ' Ωf hsb hA
        refine L.nilck (hA 5 rfl) rfl ?_
        exact L.last (G.finD rfl)
      · intro σ' Ωf hsb hA
        refine L.fa Tryz.underlying90 rfl s3 (hA 6 rfl) rfl ?_
        exact L.last (G.finD rfl)
      · intro σ' Ωf hsb hA
        refine L.ld 0 o3 (hA 7 rfl) rfl rfl rfl ?_
        exact L.last (G.finD rfl)
      · intro σ' Ωf hsb hA
        refine L.slS a j Tryz.underlying9 (hA 3 rfl) ⟨_, hA 4 rfl⟩ ⟨_, hA 8 rfl⟩ ⟨by omega, by omega⟩ rfl ?_
        exact L.last (G.finD rfl)
      · intro σ' Ωf hsb hA
        refine L.mv (hsb.get rfl) rfl ?_
        exact L.last (G.finD rfl)
      · intro σ' Ωf hsb hA
        refine L.as (hA 9 rfl) rfl ?_
        exact L.last (G.finD rfl)
      refine L.as rfl rfl ?_
      refine L.last ?_
      refine T.go (fun _ _ h => h) ?_
      refine T.ret ?_
      refine G.toP ?_
      exact G.ret (res2 Tryz.results93 rfl rfl) ⟨_, a, j, rfl, by rw [ByteArray.size_extract]; omega, by rw [ByteArray.size_extract]; omega, by omega, hj, rfl⟩

set_option maxHeartbeats 4000000 in
theorem f69 (b : Nat) (s : ByteArray) (k : Nat) (d : Int) (hk : k < s.size) (hs : s.size ≤ 1000) : FcP Tryz.prog 69 [P_ b 0] [rn b s k d] (fun x Ω => ∃ (j : Nat), ViewIs x ∧ k < j ∧ j ≤ s.size ∧ Ω = [rn b s j d]) (Wr) := by
  refine FcP.enter Tryz.func69 rfl Tryz.ntmps69 rfl fun X w => ?_
  refine T.rg ?_
  refine L.alloc z36 rfl rfl fun b2 => ?_
  refine L.nil ?_
  refine T.rg ?_
  refine L.mv rfl rfl ?_
  refine L.nilck rfl rfl ?_
  refine L.fa Tryz.underlying90 rfl s3 rfl rfl ?_
  refine L.ld 1 o3 rfl rfl rfl rfl ?_
  refine L.as rfl rfl ?_
  refine L.nil ?_
  refine T.rg ?_
  refine L.mv rfl rfl ?_
  refine L.nilck rfl rfl ?_
  refine L.fa Tryz.underlying90 rfl s9 rfl rfl ?_
  refine L.ld 1 o9 rfl rfl rfl rfl ?_
  refine L.mv rfl rfl ?_
  refine L.ar ((k + 1 : Nat) : Int) rfl rfl rfl (by omega) rfl ?_
  refine L.slS (k + 1) s.size Tryz.underlying9 rfl ⟨_, rfl⟩ rfl ⟨by omega, Nat.le_refl _⟩ rfl ?_
  have hse : (s.extract (k + 1) s.size).size = s.size - (k + 1) := by rw [ByteArray.size_extract]; omega
  generalize s.extract (k + 1) s.size = u at hse ⊢
  refine L.call e17 rfl rfl (f17c39 u (by omega)) ?_
  rintro _ _ ⟨rfl, t, u2, ok0, rfl, ht, hu2, hok0⟩
  refine L.mv rfl rfl ?_
  refine L.ex rfl rfl rfl ?_
  refine L.ex rfl rfl rfl ?_
  refine L.ex rfl rfl rfl ?_
  refine L.as rfl rfl ?_
  refine L.as rfl rfl ?_
  refine L.as rfl rfl ?_
  refine L.nil ?_
  refine T.of_seq ?_
  refine T.rg ?_
  refine L.mv rfl rfl ?_
  refine L.cvSB Tryz.underlying9 Tryz.underlying51 Tryz.underlying5 rfl (by omega) rfl ?_
  have hbl : (bys t).length = t.data.toList.length := bys_length t
  refine L.lenL Tryz.underlying51 rfl rfl fun hl27 => ?_
  rw [hbl]
  refine L.mv rfl rfl ?_
  refine L.nil ?_
  refine T.block ?_
  refine T.loop (fun m σ Ω => ∃ (q : Nat) (ok : Bool), q ≤ t.data.toList.length ∧ m = t.data.toList.length - q ∧ (ok = true → ok0 = true) ∧ σ = [(28, aN (q : Nat)), (27, aN (t.data.toList.length : Nat)), (26, aL 1 (bys t)), (6, aB ok), (4, aS t), (3, aN (k : Nat)), (2, aP b2 0), (0, aP b 0)] ∧ Ω = [.blk b2 36 [.d (.i .i64 0), .d (.s ⟨#[]⟩), .d (.s ⟨#[]⟩), .d (.s ⟨#[]⟩), .r nilV, .r nilV, .r nilV, .d (.i .i64 0), .d (.i .i64 0), .d (.i .i64 0), .d (.i .i64 0), .d (.b false), .d (.b false), .r nilV], rn b s k d]) (t.data.toList.length) _ (⟨0, ok0, Nat.zero_le _, rfl, id, rfl, rfl⟩) (by repeat constructor) ?_
  rintro m σ Ω ⟨q, ok, hq, rfl, hok, rfl, rfl⟩
  refine T.rg ?_
  refine L.cmp rfl rfl rfl rfl ?_
  refine L.nil ?_
  refine T.of_seq ?_
  refine T.cond rfl (fun h29 => ?_) (fun h29 => ?_)
  · skip
    have hlt : q < t.data.toList.length := by have := of_decide_eq_true h29; omega
    have hql : q < (bys t).length := by rw [hbl]; exact hlt
    refine T.skip ?_
    refine T.go (fun _ _ h => h) ?_
    refine T.of_seq ?_
    refine T.block ?_
    refine T.rg ?_
    refine L.ixL q _ Tryz.underlying51 s5 rfl rfl rfl (bysT_get hlt) rfl ?_
    refine L.li o5 rfl rfl ?_
    refine L.as rfl rfl ?_
    refine L.nil ?_
    refine T.region ?_
    refine L.mv rfl rfl ?_
    refine L.mv rfl rfl ?_
    refine L.caseB 33 rfl (fun h33 => ?_) (fun h33 => ?_)
    · skip
      refine L.on rfl rfl ?_
      refine L.mv rfl rfl ?_
      refine L.on rfl rfl ?_
      refine L.cmp rfl rfl rfl rfl ?_
      refine L.pkT rfl rfl rfl ?_
      refine L.mv rfl rfl ?_
      refine L.caseB 37 rfl (fun h37 => ?_) (fun h37 => ?_)
      · skip
        refine L.on rfl rfl ?_
        refine L.mv rfl rfl ?_
        refine L.on rfl rfl ?_
        refine L.cmp rfl rfl rfl rfl ?_
        refine L.pkT rfl rfl rfl ?_
        refine L.as rfl rfl ?_
        refine L.last ?_
        refine T.go (fun _ _ h => h) ?_
        refine T.region ?_
        refine L.ar ((q + 1 : Nat) : Int) rfl rfl rfl (by omega) rfl ?_
        refine L.mv rfl rfl ?_
        refine L.last ?_
        refine G.round (t.data.toList.length - (q + 1)) _ (by omega) ⟨q + 1, _, by omega, rfl, (fun h => by first | exact hok ‹ok = true› | cases h), rfl, rfl⟩ ⟨rfl, rfl, rfl, rfl, rfl, rfl, rfl, rfl, trivial⟩
      · skip
        refine L.off rfl rfl rfl rfl ?_
        refine L.off rfl rfl rfl rfl ?_
        refine L.pkF rfl rfl rfl ?_
        refine L.as rfl rfl ?_
        refine L.last ?_
        refine T.go (fun _ _ h => h) ?_
        refine T.region ?_
        refine L.ar ((q + 1 : Nat) : Int) rfl rfl rfl (by omega) rfl ?_
        refine L.mv rfl rfl ?_
        refine L.last ?_
        refine G.round (t.data.toList.length - (q + 1)) _ (by omega) ⟨q + 1, _, by omega, rfl, (fun h => by first | exact hok ‹ok = true› | cases h), rfl, rfl⟩ ⟨rfl, rfl, rfl, rfl, rfl, rfl, rfl, rfl, trivial⟩
    · skip
      refine L.off rfl rfl rfl rfl ?_
      refine L.off rfl rfl rfl rfl ?_
      refine L.pkF rfl rfl rfl ?_
      refine L.mv rfl rfl ?_
      refine L.off rfl rfl rfl rfl ?_
      refine L.off rfl rfl rfl rfl ?_
      refine L.pkF rfl rfl rfl ?_
      refine L.as rfl rfl ?_
      refine L.last ?_
      refine T.go (fun _ _ h => h) ?_
      refine T.region ?_
      refine L.ar ((q + 1 : Nat) : Int) rfl rfl rfl (by omega) rfl ?_
      refine L.mv rfl rfl ?_
      refine L.last ?_
      refine G.round (t.data.toList.length - (q + 1)) _ (by omega) ⟨q + 1, _, by omega, rfl, (fun h => by first | exact hok ‹ok = true› | cases h), rfl, rfl⟩ ⟨rfl, rfl, rfl, rfl, rfl, rfl, rfl, rfl, trivial⟩
  · skip
    refine T.exit ?_
    refine T.go (fun _ _ h => h) ?_
    refine T.of_seq ?_
    refine T.rg ?_
    refine L.mv rfl rfl ?_
    refine L.not rfl rfl ?_
    refine L.nil ?_
    refine T.cond rfl (fun h43 => ?_) (fun h43 => ?_)
    · skip
      refine T.region ?_
      refine L.mv rfl rfl ?_
      refine L.callP [] [] [_, _] rfl e41 rfl rfl (f41 _ _) (fun u hu => G.pan ⟨_, _, hu⟩) ?_
      exact fun _ _ h => h.elim
    · skip
      have hok1 : ok = true := by simpa using h43
      have hsz := hok0 (hok hok1)
      refine T.skip ?_
      refine T.go (fun _ _ h => h) ?_
      refine T.rg ?_
      refine L.mv rfl rfl ?_
      refine L.nilck rfl rfl ?_
      refine L.fa Tryz.underlying90 rfl s3 rfl rfl ?_
      refine L.ld 1 o3 rfl rfl rfl rfl ?_
      refine L.mv rfl rfl ?_
      refine L.lenS Tryz.underlying9 rfl rfl ?_
      refine L.ar ((t.size + 2 : Nat) : Int) rfl rfl rfl (by omega) rfl ?_
      refine L.ar ((k + (t.size + 2) : Nat) : Int) rfl rfl rfl (by omega) rfl ?_
      refine L.nilck rfl rfl ?_
      refine L.fa Tryz.underlying90 rfl s3 rfl rfl ?_
      refine L.sto 1 s3 rfl rfl rfl rfl rfl ?_
      refine L.nil ?_
      refine T.rg ?_
      refine L.mv rfl rfl ?_
      refine L.bld p36 z36 rfl rfl rfl rfl rfl ?_
      refine L.nilG (t := 57) [0, 0, 0, 0, 1, 2, 2, 0, 0, 0, 0, 0, 0, 14] rfl rfl ?_
      refine L.stog 0 s36 rfl rfl rfl rfl rfl rfl ?_
      refine L.nil ?_
      refine T.ret ?_
      refine G.toP ?_
      exact G.retW (drop_at (i := 0) rfl rfl) (resC (i := 0) Tryz.results69 rfl a36 s36 rfl rfl) ⟨_, ⟨[.i .i64 1, .s ⟨#[]⟩, .s ⟨#[]⟩, .s t, .l 1 [], .l 2 [], .l 2 [], .i .i64 0, .i .i64 0, .i .i64 0, .i .i64 0, .b false, .b false, .l 14 []], rfl, rfl⟩, by omega, by omega, rfl⟩

set_option maxHeartbeats 2000000 in
theorem f109 (l : List (ByteArray × Int)) (hlen : l.length ≤ 900) (a : ByteArray) (b : Int) : Fc Tryz.prog 109 [L_ 2 (prs l), S_ a, N_ b] [] (fun x Ω2 => ∃ v2, x = aR v2 ∧ MapO 170 2 (pv (.int .i64) (putM (ofM l) (a, b))) (putM (ofM l) (a, b)).length v2 Ω2) := by
  refine Fc.enter Tryz.func109 rfl Tryz.ntmps109 rfl fun X w => ?_
  refine T.rg ?_
  refine L.as rfl rfl ?_
  refine L.nil ?_
  refine T.rg ?_
  refine L.mv rfl rfl ?_
  have hol := ofM_len l
  refine L.call e119 rfl rfl (f119 l (by omega)) ?_
  rintro _ Ω1 ⟨v, rfl, hM⟩
  rw [List.append_nil]
  refine L.mv rfl rfl ?_
  refine L.mv rfl rfl ?_
  refine L.bld p170 z170 rfl rfl rfl rfl rfl ?_
  refine L.callO [] Ω1 [] (List.append_nil ([] ++ Ω1)).symm e120 rfl rfl (f120 (ofM l) v Ω1 hM (ofM_srt l) (by omega) (a, b)) ?_
  rintro _ Ω2 ⟨v2, rfl, hM2⟩
  rw [List.nil_append, List.append_nil]
  refine L.as rfl rfl ?_
  refine L.nil ?_
  refine T.ret ?_
  exact G.ret (res1 Tryz.results109 rfl) ⟨v2, rfl, hM2⟩
end Go.Proofs.YtimimkdgofiloaaGreatDoor
