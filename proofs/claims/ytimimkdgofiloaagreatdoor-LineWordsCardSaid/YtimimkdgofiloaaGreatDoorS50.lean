/- Prefixes; blanks taken away; a text cut and split at blanks. Printed by gen.py. -/
import Derived.Test.YtimimkdgofiloaaGreatDoorS3
import Derived.Test.YtimimkdgofiloaaGreatDoorDn
namespace Go.Proofs.YtimimkdgofiloaaGreatDoor
open Go Go.Q
abbrev blB : ByteArray := ⟨#[32]⟩
theorem ct122 : isCnt Tryz.prog 122 := ⟨_, Tryz.func122, by kernel_rfl, by kernel_rfl, by kernel_rfl, by kernel_rfl⟩
theorem pre_dec (s p : List UInt8) : decide ((mkB s).extract 0 p.length = mkB p) = decide (s.take p.length = p) := decide_eq_decide.2 (by rw [mkB_ext, mkB_inj]; simp)
theorem head_dec (c : UInt8) : ((c.toNat : Int) == 32) = decide (c = 32) := by
  by_cases h : c = 32
  · subst h; rfl
  · rw [decide_eq_false h]
    have : c.toNat ≠ 32 := fun e => h (UInt8.toNat_inj.1 (by rw [e]; rfl))
    simp; omega
theorem head_yes {c : UInt8} (h : ((c.toNat : Int) == ((32 : UInt8).toNat : Int)) = true) : c = 32 := of_decide_eq_true ((head_dec c).symm.trans h)
theorem head_no {c : UInt8} (h : ((c.toNat : Int) == ((32 : UInt8).toNat : Int)) = false) : c ≠ 32 := of_decide_eq_false ((head_dec c).symm.trans h)
theorem drop_all (l : List UInt8) (a : Nat) : (mkB l).extract a l.length = mkB (l.drop a) := by rw [mkB_ext, List.take_of_length_le (by rw [List.length_drop]; exact Nat.le_refl _)]
theorem take_ext (l : List UInt8) (m : Nat) : (mkB l).extract 0 m = mkB (l.take m) := by rw [mkB_ext]; simp
set_option maxHeartbeats 400000 in
theorem f116 (s p : List UInt8) (hs : s.length ≤ 1000000) (hp : p.length ≤ 1000000) : Fc Tryz.prog 116 [S_ (mkB s), S_ (mkB p)] [] (Just (aB (decide (s.take p.length = p)))) := by
  refine Fc.enter Tryz.func116 rfl Tryz.ntmps116 rfl fun X w => ?_
  refine T.rg ?_
  refine L.as rfl rfl ?_
  refine L.nil ?_
  refine T.rg ?_
  refine L.mv rfl rfl ?_
  refine L.lenS Tryz.underlying9 rfl rfl ?_
  rw [mkB_size]
  refine L.mv rfl rfl ?_
  refine L.lenS Tryz.underlying9 rfl rfl ?_
  rw [mkB_size]
  refine L.cmp rfl rfl rfl rfl ?_
  refine L.mv rfl rfl ?_
  refine L.caseB 10 rfl (fun h10 => ?_) (fun h10 => ?_)
  · skip
    have hge : p.length ≤ s.length := by have := of_decide_eq_true h10; omega
    refine L.on rfl rfl ?_
    refine L.mv rfl rfl ?_
    refine L.on rfl rfl ?_
    refine L.mv rfl rfl ?_
    refine L.on rfl rfl ?_
    refine L.lenS Tryz.underlying9 rfl rfl ?_
    rw [mkB_size]
    refine L.on rfl rfl ?_
    refine L.slS 0 p.length Tryz.underlying9 rfl rfl ⟨_, rfl⟩ ⟨by omega, by rw [mkB_size]; omega⟩ rfl ?_
    refine L.on rfl rfl ?_
    refine L.mv rfl rfl ?_
    refine L.on rfl rfl ?_
    refine L.eqS rfl rfl rfl ?_
    refine L.pkT rfl rfl rfl ?_
    refine L.as rfl rfl ?_
    refine L.nil ?_
    refine T.ret ?_
    exact G.ret (res1 Tryz.results116 rfl) ⟨rfl, congrArg aB (pre_dec s p)⟩
  · skip
    have hlt : s.length < p.length := by have := of_decide_eq_false h10; omega
    refine L.off rfl rfl rfl rfl ?_
    refine L.off rfl rfl rfl rfl ?_
    refine L.off rfl rfl rfl rfl ?_
    refine L.off rfl rfl rfl rfl ?_
    refine L.off rfl rfl rfl rfl ?_
    refine L.off rfl rfl rfl rfl ?_
    refine L.pkF rfl rfl rfl ?_
    refine L.as rfl rfl ?_
    refine L.nil ?_
    refine T.ret ?_
    exact G.ret (res1 Tryz.results116 rfl) ⟨rfl, congrArg aB (decide_eq_false (fun e => by have := congrArg List.length e; rw [List.length_take] at this; omega)).symm⟩

set_option maxHeartbeats 400000 in
theorem f101 (s p : List UInt8) (hs : s.length ≤ 1000000) (hp : p.length ≤ 1000000) : Fc Tryz.prog 101 [S_ (mkB s), S_ (mkB p)] [] (Just (.t [S_ (mkB (if s.take p.length = p then s.drop p.length else s)), Bo (decide (s.take p.length = p))])) := by
  refine Fc.enter Tryz.func101 rfl Tryz.ntmps101 rfl fun X w => ?_
  refine T.rg ?_
  refine L.as rfl rfl ?_
  refine L.as rfl rfl ?_
  refine L.nil ?_
  refine T.of_seq ?_
  refine T.rg ?_
  refine L.mv rfl rfl ?_
  refine L.mv rfl rfl ?_
  refine L.call e116 rfl rfl (f116 s p hs hp) ?_
  rintro _ _ ⟨rfl, rfl⟩
  refine L.not rfl rfl ?_
  refine L.nil ?_
  refine T.cond rfl (fun h9 => ?_) (fun h9 => ?_)
  · skip
    have hn : ¬ s.take p.length = p := by simpa using h9
    refine T.rg ?_
    refine L.mv rfl rfl ?_
    refine L.as rfl rfl ?_
    refine L.as rfl rfl ?_
    refine L.nil ?_
    refine T.ret ?_
    exact G.ret (res2 Tryz.results101 rfl rfl) ⟨rfl, by rw [if_neg hn, decide_eq_false hn]; rfl⟩
  · skip
    have hn : s.take p.length = p := by simpa using h9
    have hpl : p.length ≤ s.length := by have := congrArg List.length hn; rw [List.length_take] at this; omega
    refine T.skip ?_
    refine T.go (fun _ _ h => h) ?_
    refine T.rg ?_
    refine L.mv rfl rfl ?_
    refine L.mv rfl rfl ?_
    refine L.lenS Tryz.underlying9 rfl rfl ?_
    rw [mkB_size]
    refine L.slS p.length s.length Tryz.underlying9 rfl ⟨_, rfl⟩ rfl ⟨by omega, by rw [mkB_size]; omega⟩ rfl ?_
    rw [drop_all]
    refine L.as rfl rfl ?_
    refine L.as rfl rfl ?_
    refine L.nil ?_
    refine T.ret ?_
    exact G.ret (res2 Tryz.results101 rfl rfl) ⟨rfl, by rw [if_pos hn, decide_eq_true hn]; rfl⟩

set_option maxHeartbeats 400000 in
theorem f76 (s p : List UInt8) (hs : s.length ≤ 1000000) (hp : p.length ≤ 1000000) : Fc Tryz.prog 76 [S_ (mkB s), S_ (mkB p)] [] (Just (.t [S_ (mkB (if s.take p.length = p then s.drop p.length else s)), Bo (decide (s.take p.length = p))])) := by
  refine Fc.enter Tryz.func76 rfl Tryz.ntmps76 rfl fun X w => ?_
  refine T.rg ?_
  refine L.as rfl rfl ?_
  refine L.as rfl rfl ?_
  refine L.nil ?_
  refine T.rg ?_
  refine L.mv rfl rfl ?_
  refine L.mv rfl rfl ?_
  refine L.call e101 rfl rfl (f101 s p hs hp) ?_
  rintro _ _ ⟨rfl, rfl⟩
  refine L.ex rfl rfl rfl ?_
  refine L.ex rfl rfl rfl ?_
  refine L.as rfl rfl ?_
  refine L.as rfl rfl ?_
  refine L.nil ?_
  refine T.ret ?_
  exact G.ret (res2 Tryz.results76 rfl rfl) ⟨rfl, rfl⟩

set_option maxHeartbeats 1000000 in
theorem f24 (l : List UInt8) : Fc Tryz.prog 24 [S_ (mkB l), B8 32] [] (Just (aS (mkB (trimL l)))) := by
  refine Fc.enter Tryz.func24 rfl Tryz.ntmps24 rfl fun X w => ?_
  refine T.rg ?_
  refine L.as rfl rfl ?_
  refine L.nil ?_
  refine T.of_seq ?_
  refine T.block ?_
  refine T.loop (fun m σ Ω => ∃ r : List UInt8, trimL r = trimL l ∧ m = r.length ∧ σ = [(1, .v (B8 32)), (0, aS (mkB r))] ∧ Ω = []) (l.length) _ (⟨l, rfl, rfl, rfl, rfl⟩) (by repeat constructor) ?_
  rintro m σ Ω ⟨r, hr, rfl, rfl, rfl⟩
  refine T.of_seq ?_
  refine T.rg ?_
  refine L.mv rfl rfl ?_
  refine L.lenS Tryz.underlying9 rfl rfl ?_
  rw [mkB_size]
  refine L.cmp rfl rfl rfl rfl ?_
  refine L.mv rfl rfl ?_
  refine L.caseB 8 rfl (fun h8 => ?_) (fun h8 => ?_)
  · skip
    obtain ⟨c, r, rfl⟩ : ∃ c q, r = c :: q := by
      cases r with
      | nil => cases h8
      | cons c q => exact ⟨c, q, rfl⟩
    refine L.on rfl rfl ?_
    refine L.mv rfl rfl ?_
    refine L.on rfl rfl ?_
    refine L.ixS 0 Tryz.underlying9 rfl rfl rfl (by rw [mkB_size]; simp) rfl ?_
    rw [mkB_get, List.getElem_cons_zero]
    refine L.on rfl rfl ?_
    refine L.mv rfl rfl ?_
    refine L.on rfl rfl ?_
    refine L.cmp rfl rfl rfl rfl ?_
    refine L.pkT rfl rfl rfl ?_
    refine L.nil ?_
    refine T.cond rfl (fun h13 => ?_) (fun h13 => ?_)
    · skip
      have hc : c = 32 := head_yes h13
      refine T.skip ?_
      refine T.go (fun _ _ h => h) ?_
      refine T.block ?_
      refine T.region ?_
      refine L.mv rfl rfl ?_
      refine L.slS 1 (r.length + 1) Tryz.underlying9 rfl ⟨_, rfl⟩ rfl ⟨by omega, by rw [mkB_size]; simp⟩ rfl ?_
      rw [show r.length + 1 = (c :: r).length from rfl, drop_all, List.drop_succ_cons, List.drop_zero]
      refine L.as rfl rfl ?_
      refine L.last ?_
      refine G.round r.length _ (by simp) ⟨r, by rw [← hr]; exact (trimL_yes hc).symm, rfl, rfl, rfl⟩ (by repeat constructor)
    · skip
      have hc : c ≠ 32 := head_no h13
      refine T.exit ?_
      refine T.go (fun _ _ h => h) ?_
      refine T.rg ?_
      refine L.mv rfl rfl ?_
      refine L.as rfl rfl ?_
      refine L.nil ?_
      refine T.ret ?_
      exact G.ret (res1 Tryz.results24 rfl) ⟨rfl, by rw [← hr, trimL_no hc]⟩
  · skip
    obtain rfl : r = [] := by
      cases r with
      | nil => rfl
      | cons c q => have := of_decide_eq_false h8; simp at this
    refine L.off rfl rfl rfl rfl ?_
    refine L.off rfl rfl rfl rfl ?_
    refine L.off rfl rfl rfl rfl ?_
    refine L.off rfl rfl rfl rfl ?_
    refine L.pkF rfl rfl rfl ?_
    refine L.nil ?_
    refine T.condF rfl ?_
    refine T.exit ?_
    refine T.go (fun _ _ h => h) ?_
    refine T.rg ?_
    refine L.mv rfl rfl ?_
    refine L.as rfl rfl ?_
    refine L.nil ?_
    refine T.ret ?_
    exact G.ret (res1 Tryz.results24 rfl) ⟨rfl, by rw [← hr]; rfl⟩

set_option maxHeartbeats 1000000 in
theorem f18 (l : List UInt8) : Fc Tryz.prog 18 [S_ (mkB l), S_ blB] [] (Just (aS (mkB (trimL l)))) := by
  refine Fc.enter Tryz.func18 rfl Tryz.ntmps18 rfl fun X w => ?_
  refine T.rg ?_
  refine L.as rfl rfl ?_
  refine L.nil ?_
  refine T.of_seq ?_
  refine T.rg ?_
  refine L.mv rfl rfl ?_
  refine L.eqS rfl rfl rfl ?_
  refine L.mv rfl rfl ?_
  refine L.caseB 9 rfl (fun h9 => ?_) (fun h9 => ?_)
  · skip
    obtain rfl : l = [] := by rw [← mkB_emp]; exact of_decide_eq_true h9
    refine L.off rfl rfl rfl rfl ?_
    refine L.off rfl rfl rfl rfl ?_
    refine L.pkT rfl rfl rfl ?_
    refine L.nil ?_
    refine T.condT rfl ?_
    refine T.rg ?_
    refine L.mv rfl rfl ?_
    refine L.as rfl rfl ?_
    refine L.nil ?_
    refine T.ret ?_
    exact G.ret (res1 Tryz.results18 rfl) ⟨rfl, rfl⟩
  · skip
    refine L.on rfl rfl ?_
    refine L.mv rfl rfl ?_
    refine L.on rfl rfl ?_
    refine L.eqS rfl rfl rfl ?_
    refine L.setB (t := 11) (b' := false) rfl (by decide) ?_
    refine L.pkF rfl rfl rfl ?_
    refine L.nil ?_
    refine T.condF rfl ?_
    refine T.skip ?_
    refine T.go (fun _ _ h => h) ?_
    refine T.of_seq ?_
    refine T.rg ?_
    refine L.mv rfl rfl ?_
    refine L.lenS Tryz.underlying9 rfl rfl ?_
    refine L.cmp rfl rfl rfl rfl ?_
    refine L.setB (t := 16) (b' := true) rfl (by decide) ?_
    refine L.mv rfl rfl ?_
    refine L.on rfl rfl ?_
    refine L.mv rfl rfl ?_
    refine L.on rfl rfl ?_
    refine L.ixS 0 Tryz.underlying9 rfl rfl rfl (by decide) rfl ?_
    refine L.on rfl rfl ?_
    refine L.cmp rfl rfl rfl rfl ?_
    refine L.setB (t := 20) (b' := true) rfl (by decide) ?_
    refine L.pkT rfl rfl rfl ?_
    refine L.nil ?_
    refine T.condT rfl ?_
    refine T.rg ?_
    refine L.mv rfl rfl ?_
    refine L.mv rfl rfl ?_
    refine L.ixS 0 Tryz.underlying9 rfl rfl rfl (by decide) rfl ?_
    refine L.call e24 rfl rfl (f24 l) ?_
    rintro _ _ ⟨rfl, rfl⟩
    refine L.as rfl rfl ?_
    refine L.nil ?_
    refine T.ret ?_
    exact G.ret (res1 Tryz.results18 rfl) ⟨rfl, rfl⟩

set_option maxHeartbeats 1000000 in
theorem f34 (l : List UInt8) : Fc Tryz.prog 34 [S_ (mkB l), S_ blB] [] (Just (aN (Lib.indexByte l 32))) := by
  refine Fc.enter Tryz.func34 rfl Tryz.ntmps34 rfl fun X w => ?_
  refine T.rg ?_
  refine L.as rfl rfl ?_
  refine L.nil ?_
  refine T.rg ?_
  refine L.mv rfl rfl ?_
  refine L.lenS Tryz.underlying9 rfl rfl ?_
  refine L.as rfl rfl ?_
  refine L.nil ?_
  refine T.of_seq ?_
  refine T.block ?_
  refine T.rg ?_
  refine L.mv rfl rfl ?_
  refine L.cmp rfl rfl rfl rfl ?_
  refine L.setB (t := 18) (b' := false) rfl (by decide) ?_
  refine L.mv rfl rfl ?_
  refine L.on rfl rfl ?_
  refine L.mv rfl rfl ?_
  refine L.on rfl rfl ?_
  refine L.mv rfl rfl ?_
  refine L.on rfl rfl ?_
  refine L.eqS rfl rfl rfl ?_
  refine L.pkF rfl rfl rfl ?_
  refine L.as rfl rfl ?_
  refine L.nil ?_
  refine T.cond rfl (fun h16 => ?_) (fun h16 => ?_)
  · skip
    obtain rfl : [32] = l := by rw [← mkB_inj]; exact of_decide_eq_true h16
    refine T.rg ?_
    refine L.as rfl rfl ?_
    refine L.nil ?_
    refine T.ret ?_
    exact G.ret (res1 Tryz.results34 rfl) ⟨rfl, rfl⟩
  · skip
    refine T.rg ?_
    refine L.mv rfl rfl ?_
    refine L.cmp rfl rfl rfl rfl ?_
    refine L.setB (t := 26) (b' := true) rfl (by decide) ?_
    refine L.as rfl rfl ?_
    refine L.nil ?_
    refine T.condT rfl ?_
    refine T.rg ?_
    refine L.mv rfl rfl ?_
    refine L.mv rfl rfl ?_
    refine L.ixS 0 Tryz.underlying9 rfl rfl rfl (by decide) rfl ?_
    refine L.call e62 rfl rfl (f62 (mkB l) 32) ?_
    rintro _ _ ⟨rfl, rfl⟩
    rw [mkB_data]
    refine L.as rfl rfl ?_
    refine L.nil ?_
    refine T.ret ?_
    exact G.ret (res1 Tryz.results34 rfl) ⟨rfl, rfl⟩

set_option maxHeartbeats 400000 in
theorem f115 (l : List UInt8) : Fc Tryz.prog 115 [S_ (mkB l), S_ blB] [] (Just (aN (Lib.indexByte l 32))) := by
  refine Fc.enter Tryz.func115 rfl Tryz.ntmps115 rfl fun X w => ?_
  refine T.rg ?_
  refine L.as rfl rfl ?_
  refine L.nil ?_
  refine T.rg ?_
  refine L.mv rfl rfl ?_
  refine L.mv rfl rfl ?_
  refine L.call e34 rfl rfl (f34 l) ?_
  rintro _ _ ⟨rfl, rfl⟩
  refine L.as rfl rfl ?_
  refine L.nil ?_
  refine T.ret ?_
  exact G.ret (res1 Tryz.results115 rfl) ⟨rfl, rfl⟩

set_option maxHeartbeats 1000000 in
theorem f23 (l : List UInt8) (hl : l.length ≤ 1000000) : Fc Tryz.prog 23 [S_ (mkB l), S_ blB] [] (Just (.t [S_ (mkB (cutL l).1), S_ (mkB (cutL l).2.1), Bo (cutL l).2.2])) := by
  refine Fc.enter Tryz.func23 rfl Tryz.ntmps23 rfl fun X w => ?_
  refine T.rg ?_
  refine L.as rfl rfl ?_
  refine L.as rfl rfl ?_
  refine L.as rfl rfl ?_
  refine L.nil ?_
  refine T.of_seq ?_
  refine T.rg ?_
  refine L.mv rfl rfl ?_
  refine L.mv rfl rfl ?_
  refine L.call e34 rfl rfl (f34 l) ?_
  rintro _ _ ⟨rfl, rfl⟩
  have hix := idx32 l
  refine L.as rfl rfl ?_
  refine L.nil ?_
  refine T.rg ?_
  refine L.mv rfl rfl ?_
  refine L.cmp rfl rfl rfl rfl ?_
  refine L.nil ?_
  refine T.cond rfl (fun h12 => ?_) (fun h12 => ?_)
  · skip
    obtain ⟨m, hm, hlt, _, _⟩ : ∃ m : Nat, Lib.indexByte l 32 = (m : Int) ∧ m < l.length ∧ l = l.take m ++ 32 :: l.drop (m + 1) ∧ 32 ∉ l.take m := by
      rcases hix with ⟨h1, _⟩ | h
      · have := of_decide_eq_true h12; omega
      · exact h
    rw [hm]
    have hcut : cutL l = (l.take m, l.drop (m + 1), true) := by unfold cutL; rw [if_neg (by omega), hm]; rfl
    refine T.of_seq ?_
    refine T.drawC 10 [(7, aN (m : Int)), (1, aS blB), (0, aS (mkB l))] ([]) (fun _ => []) [] (fun n x _ post => match n with
      | 0 => x = aS (mkB l) ∧ post = []
      | 1 => x = aN (m : Int) ∧ post = []
      | 2 => x = aS (mkB (l.take m)) ∧ post = []
      | 3 => x = aS (mkB l) ∧ post = []
      | 4 => x = aN (m : Int) ∧ post = []
      | 5 => x = aS blB ∧ post = []
      | 6 => x = aN 1 ∧ post = []
      | 7 => x = aN ((m + 1 : Nat) : Int) ∧ post = []
      | 8 => x = aS (mkB (l.drop (m + 1))) ∧ post = []
      | 9 => x = aS (mkB (l.take m)) ∧ post = []
      | _ => False) hmixed rfl rfl rfl (by repeat constructor) (List.Perm.refl _) rfl ⟨?_, ?_, ?_, ?_, ?_, ?_, ?_, ?_, ?_, ?_, trivial⟩ ?_
    · intro X posts σ' Ωf hsb hA
      refine L.mv (hsb.get rfl) rfl ?_
      exact L.last (G.fin [] ⟨rfl, rfl⟩ rfl)
    · intro X posts σ' Ωf hsb hA
      refine L.mv (hsb.get rfl) rfl ?_
      exact L.last (G.fin [] ⟨rfl, rfl⟩ rfl)
    · intro X posts σ' Ωf hsb hA
      have hx0 := (hA 0 rfl).2.1
      have l13 : σ'.lookup 13 = some (aS (mkB l)) := (hA 0 rfl).1.trans (congrArg some hx0)
      have hx1 := (hA 1 rfl).2.1
      have l14 : σ'.lookup 14 = some (aN (m : Int)) := (hA 1 rfl).1.trans (congrArg some hx1)
      refine L.slS 0 m Tryz.underlying9 l13 rfl ⟨_, l14⟩ ⟨by omega, by rw [mkB_size]; omega⟩ rfl ?_
      rw [take_ext]
      exact L.last (G.fin [] ⟨rfl, rfl⟩ rfl)
    · intro X posts σ' Ωf hsb hA
      refine L.mv (hsb.get rfl) rfl ?_
      exact L.last (G.fin [] ⟨rfl, rfl⟩ rfl)
    · intro X posts σ' Ωf hsb hA
      refine L.mv (hsb.get rfl) rfl ?_
      exact L.last (G.fin [] ⟨rfl, rfl⟩ rfl)
    · intro X posts σ' Ωf hsb hA
      refine L.mv (hsb.get rfl) rfl ?_
      exact L.last (G.fin [] ⟨rfl, rfl⟩ rfl)
    · intro X posts σ' Ωf hsb hA
      have hx5 := (hA 5 rfl).2.1
      have l18 : σ'.lookup 18 = some (aS blB) := (hA 5 rfl).1.trans (congrArg some hx5)
      refine L.lenS Tryz.underlying9 l18 rfl ?_
      exact L.last (G.fin [] ⟨rfl, rfl⟩ rfl)
    · intro X posts σ' Ωf hsb hA
      have hx4 := (hA 4 rfl).2.1
      have l17 : σ'.lookup 17 = some (aN (m : Int)) := (hA 4 rfl).1.trans (congrArg some hx4)
      have hx6 := (hA 6 rfl).2.1
      have l19 : σ'.lookup 19 = some (aN 1) := (hA 6 rfl).1.trans (congrArg some hx6)
      refine L.ar ((m + 1 : Nat) : Int) l17 l19 rfl (by omega) rfl ?_
      exact L.last (G.fin [] ⟨rfl, rfl⟩ rfl)
    · intro X posts σ' Ωf hsb hA
      have hx3 := (hA 3 rfl).2.1
      have l16 : σ'.lookup 16 = some (aS (mkB l)) := (hA 3 rfl).1.trans (congrArg some hx3)
      have hx7 := (hA 7 rfl).2.1
      have l20 : σ'.lookup 20 = some (aN ((m + 1 : Nat) : Int)) := (hA 7 rfl).1.trans (congrArg some hx7)
      refine L.slS (m + 1) l.length Tryz.underlying9 l16 ⟨_, l20⟩ (by rw [mkB_size]; rfl) ⟨by omega, by rw [mkB_size]; omega⟩ rfl ?_
      rw [drop_all]
      exact L.last (G.fin [] ⟨rfl, rfl⟩ rfl)
    · intro X posts σ' Ωf hsb hA
      have hx2 := (hA 2 rfl).2.1
      have l15 : σ'.lookup 15 = some (aS (mkB (l.take m))) := (hA 2 rfl).1.trans (congrArg some hx2)
      refine L.as l15 rfl ?_
      exact L.last (G.fin [] ⟨rfl, rfl⟩ rfl)
    intro X posts hR
    obtain ⟨hx0, hp0⟩ : X 0 = aS (mkB l) ∧ posts 0 = [] := hR 0 rfl
    obtain ⟨hx1, hp1⟩ : X 1 = aN (m : Int) ∧ posts 1 = [] := hR 1 rfl
    obtain ⟨hx2, hp2⟩ : X 2 = aS (mkB (l.take m)) ∧ posts 2 = [] := hR 2 rfl
    obtain ⟨hx3, hp3⟩ : X 3 = aS (mkB l) ∧ posts 3 = [] := hR 3 rfl
    obtain ⟨hx4, hp4⟩ : X 4 = aN (m : Int) ∧ posts 4 = [] := hR 4 rfl
    obtain ⟨hx5, hp5⟩ : X 5 = aS blB ∧ posts 5 = [] := hR 5 rfl
    obtain ⟨hx6, hp6⟩ : X 6 = aN 1 ∧ posts 6 = [] := hR 6 rfl
    obtain ⟨hx7, hp7⟩ : X 7 = aN ((m + 1 : Nat) : Int) ∧ posts 7 = [] := hR 7 rfl
    obtain ⟨hx8, hp8⟩ : X 8 = aS (mkB (l.drop (m + 1))) ∧ posts 8 = [] := hR 8 rfl
    obtain ⟨hx9, hp9⟩ : X 9 = aS (mkB (l.take m)) ∧ posts 9 = [] := hR 9 rfl
    have hpp : (List.range 10).flatMap (leftC 10 (fun i => ([] : List (Option Nat)).getD i none) posts) = [] := by
      show posts 0 ++ (posts 1 ++ (posts 2 ++ (posts 3 ++ (posts 4 ++ (posts 5 ++ (posts 6 ++ (posts 7 ++ (posts 8 ++ (posts 9 ++ []))))))))) = _
      simp only [hp0, hp1, hp2, hp3, hp4, hp5, hp6, hp7, hp8, hp9, List.append_nil]
    rw [hpp]
    refine L.sub (σ' := [(4, aS (mkB (l.take m))), (21, aS (mkB (l.drop (m + 1)))), (7, aN (m : Int)), (1, aS blB), (0, aS (mkB l))]) ⟨congrArg some hx9, congrArg some hx8, rfl, rfl, rfl, trivial⟩ ?_
    refine L.as rfl rfl ?_
    refine L.as rfl rfl ?_
    refine L.last ?_
    refine T.go (fun _ _ h => h) ?_
    refine T.ret ?_
    exact G.ret (res3 Tryz.results23 rfl rfl rfl) ⟨rfl, by rw [hcut]; rfl⟩
  · skip
    have hcut : cutL l = (l, [], false) := by
      unfold cutL
      rcases hix with ⟨h1, _⟩ | ⟨m, hm, _⟩
      · rw [if_pos h1]
      · have := of_decide_eq_false h12; omega
    refine T.skip ?_
    refine T.go (fun _ _ h => h) ?_
    refine T.rg ?_
    refine L.mv rfl rfl ?_
    refine L.as rfl rfl ?_
    refine L.as rfl rfl ?_
    refine L.as rfl rfl ?_
    refine L.nil ?_
    refine T.ret ?_
    exact G.ret (res3 Tryz.results23 rfl rfl rfl) ⟨rfl, by rw [hcut]; rfl⟩

set_option maxHeartbeats 400000 in
theorem f17 (l : List UInt8) (hl : l.length ≤ 1000000) : Fc Tryz.prog 17 [S_ (mkB l), S_ blB] [] (Just (.t [S_ (mkB (cutL l).1), S_ (mkB (cutL l).2.1), Bo (cutL l).2.2])) := by
  refine Fc.enter Tryz.func17 rfl Tryz.ntmps17 rfl fun X w => ?_
  refine T.rg ?_
  refine L.as rfl rfl ?_
  refine L.as rfl rfl ?_
  refine L.as rfl rfl ?_
  refine L.nil ?_
  refine T.rg ?_
  refine L.mv rfl rfl ?_
  refine L.mv rfl rfl ?_
  refine L.call e23 rfl rfl (f23 l hl) ?_
  rintro _ _ ⟨rfl, rfl⟩
  refine L.ex rfl rfl rfl ?_
  refine L.ex rfl rfl rfl ?_
  refine L.ex rfl rfl rfl ?_
  refine L.as rfl rfl ?_
  refine L.as rfl rfl ?_
  refine L.as rfl rfl ?_
  refine L.nil ?_
  refine T.ret ?_
  exact G.ret (res3 Tryz.results17 rfl rfl rfl) ⟨rfl, rfl⟩

set_option maxHeartbeats 400000 in
theorem f114 (l : List UInt8) : Fc Tryz.prog 114 [S_ (mkB l), S_ blB] [] (Just (aN (Lib.countByte l 32 : Nat))) := by
  refine Fc.enter Tryz.func114 rfl Tryz.ntmps114 rfl fun X w => ?_
  refine T.rg ?_
  refine L.as rfl rfl ?_
  refine L.nil ?_
  refine T.of_seq ?_
  refine T.rg ?_
  refine L.mv rfl rfl ?_
  refine L.lenS Tryz.underlying9 rfl rfl ?_
  refine L.cmp rfl rfl rfl rfl ?_
  refine L.setB (t := 9) (b' := false) rfl (by decide) ?_
  refine L.nil ?_
  refine T.condF rfl ?_
  refine T.skip ?_
  refine T.go (fun _ _ h => h) ?_
  refine T.of_seq ?_
  refine T.rg ?_
  refine L.mv rfl rfl ?_
  refine L.lenS Tryz.underlying9 rfl rfl ?_
  refine L.cmp rfl rfl rfl rfl ?_
  refine L.setB (t := 15) (b' := true) rfl (by decide) ?_
  refine L.nil ?_
  refine T.condT rfl ?_
  refine T.rg ?_
  refine L.mv rfl rfl ?_
  refine L.mv rfl rfl ?_
  refine L.ixS 0 Tryz.underlying9 rfl rfl rfl (by decide) rfl ?_
  refine L.cntB ct122 rfl rfl rfl ?_
  rw [mkB_data]
  refine L.as rfl rfl ?_
  refine L.nil ?_
  refine T.ret ?_
  exact G.ret (res1 Tryz.results114 rfl) ⟨rfl, rfl⟩
end Go.Proofs.YtimimkdgofiloaaGreatDoor
