/- The document's reader of selectors. Printed by gen.py. -/
import Derived.Test.YtimimkdgofiloaaGreatS7
import Derived.Test.YtimimkdgofiloaaGreatQl
namespace Go.Proofs.YtimimkdgofiloaaGreat
open Go Go.Q
theorem drop_take_succ {s : ByteArray} {k j : Nat} (hkj : k ≤ j) (hj : j < s.size) : (s.data.toList.drop k).take (j + 1 - k) = (s.data.toList.drop k).take (j - k) ++ [s[j]] := by
  rw [show j + 1 - k = (j - k) + 1 by omega, List.take_add_one, List.getElem?_drop, show k + (j - k) = j by omega, get_list s j hj]; rfl
set_option maxHeartbeats 1000000 in
theorem f58 (s : ByteArray) (k : Nat) (hk : k ≤ s.size) (hs : s.size ≤ 1000) : Fc Tryz.prog 58 [S_ s, N_ (k : Int)] [] (Just (.t [S_ (tok stopB s k), N_ ((k + tokLen stopB s k : Nat) : Int), Bo (nameB (tok stopB s k))])) := by
  refine Fc.enter Tryz.func58 rfl Tryz.ntmps58 rfl fun X w => ?_
  refine T.rg ?_
  refine L.as rfl rfl ?_
  refine L.as rfl rfl ?_
  refine L.as rfl rfl ?_
  refine L.nil ?_
  refine T.rg ?_
  refine L.mv rfl rfl ?_
  refine L.as rfl rfl ?_
  refine L.nil ?_
  refine T.of_seq ?_
  refine T.block ?_
  refine T.loop (fun m σ Ω => ∃ j : Nat, k ≤ j ∧ j ≤ s.size ∧ m = s.size - j ∧ ((s.data.toList.drop k).take (j - k)).all (fun c => !stopB c) = true ∧ σ = [(7, aN j), (1, aN k), (0, aS s)] ∧ Ω = []) (s.size - k) _ (⟨k, Nat.le_refl _, hk, rfl, by simp, rfl, rfl⟩) (by repeat constructor) ?_
  rintro m σ Ω ⟨j, hkj, hj, rfl, hall, rfl, rfl⟩
  refine T.of_seq ?_
  refine T.rg ?_
  refine L.mv rfl rfl ?_
  refine L.mv rfl rfl ?_
  refine L.lenS Tryz.underlying9 rfl rfl ?_
  refine L.cmp rfl rfl rfl rfl ?_
  refine L.mv rfl rfl ?_
  refine L.caseB 13 rfl (fun h13 => ?_) (fun h13 => ?_)
  · skip
    have hlt : j < s.size := by simpa using h13
    refine L.on rfl rfl ?_
    refine L.mv rfl rfl ?_
    refine L.on rfl rfl ?_
    refine L.mv rfl rfl ?_
    refine L.on rfl rfl ?_
    refine L.ixS j Tryz.underlying9 rfl rfl rfl hlt rfl ?_
    refine L.on rfl rfl ?_
    refine L.call e86 rfl rfl (f86 _) ?_
    rintro _ _ ⟨rfl, rfl⟩
    refine L.on rfl rfl ?_
    refine L.not rfl rfl ?_
    refine L.pkT rfl rfl rfl ?_
    refine L.nil ?_
    refine T.cond rfl (fun h19 => ?_) (fun h19 => ?_)
    · skip
      refine T.skip ?_
      refine T.go (fun _ _ h => h) ?_
      refine T.block ?_
      refine T.region ?_
      refine L.mv rfl rfl ?_
      refine L.ar ((j + 1 : Nat) : Int) rfl rfl rfl (by omega) rfl ?_
      refine L.as rfl rfl ?_
      refine L.last ?_
      refine G.round (s.size - (j + 1)) _ (by omega) ⟨j + 1, by omega, by omega, rfl, ?_, rfl, rfl⟩ (by repeat constructor)
      rw [drop_take_succ hkj hlt, List.all_append, hall]
      simpa using h19
    · skip
      have hst : stopB s[j] = true := by simpa using h19
      have htl : tokLen stopB s k = j - k := tokLen_end hkj (.inr ⟨hlt, hst⟩) hall hj
      have htk : s.extract k j = tok stopB s k := by unfold tok; rw [htl, show k + (j - k) = j by omega]
      refine T.exit ?_
      refine T.go (fun _ _ h => h) ?_
      refine T.of_seq ?_
      have hts := tok_size stopB s k hk
      refine T.drawD 11 [(0, aS s), (1, aN k), (7, aN j)] [aS s, aN k, aN j, aS (tok stopB s k), aN j, aS s, aN k, aN j, aS (tok stopB s k), aB (nameB (tok stopB s k)), aS (tok stopB s k)] hmixed rfl rfl rfl rfl (by repeat constructor) ⟨?_, ?_, ?_, ?_, ?_, ?_, ?_, ?_, ?_, ?_, ?_, trivial⟩ ?_
      · intro σ' Ωf hsb hA
        refine L.mv (hsb.get rfl) rfl ?_
        exact L.last (G.finD rfl)
      · intro σ' Ωf hsb hA
        refine L.mv (hsb.get rfl) rfl ?_
        exact L.last (G.finD rfl)
      · intro σ' Ωf hsb hA
        refine L.mv (hsb.get rfl) rfl ?_
        exact L.last (G.finD rfl)
      · intro σ' Ωf hsb hA
        refine L.slS k j Tryz.underlying9 (hA 0 rfl) ⟨_, hA 1 rfl⟩ ⟨_, hA 2 rfl⟩ ⟨hkj, hj⟩ rfl ?_
        rw [htk]
        exact L.last (G.finD rfl)
      · intro σ' Ωf hsb hA
        refine L.mv (hsb.get rfl) rfl ?_
        exact L.last (G.finD rfl)
      · intro σ' Ωf hsb hA
        refine L.mv (hsb.get rfl) rfl ?_
        exact L.last (G.finD rfl)
      · intro σ' Ωf hsb hA
        refine L.mv (hsb.get rfl) rfl ?_
        exact L.last (G.finD rfl)
      · intro σ' Ωf hsb hA
        refine L.mv (hsb.get rfl) rfl ?_
        exact L.last (G.finD rfl)
      · intro σ' Ωf hsb hA
        refine L.slS k j Tryz.underlying9 (hA 5 rfl) ⟨_, hA 6 rfl⟩ ⟨_, hA 7 rfl⟩ ⟨hkj, hj⟩ rfl ?_
        rw [htk]
        exact L.last (G.finD rfl)
      · intro σ' Ωf hsb hA
        refine L.call e87 (evs1 (hA 8 rfl)) rfl (f87 _ (by omega)) ?_
        rintro _ _ ⟨rfl, rfl⟩
        exact L.last (G.finD rfl)
      · intro σ' Ωf hsb hA
        refine L.as (hA 3 rfl) rfl ?_
        exact L.last (G.finD rfl)
      refine L.as rfl rfl ?_
      refine L.as rfl rfl ?_
      refine L.last ?_
      refine T.go (fun _ _ h => h) ?_
      refine T.ret ?_
      exact G.ret (res3 Tryz.results58 rfl rfl rfl) ⟨rfl, by rw [show k + tokLen stopB s k = j by omega]⟩
  · skip
    have hge : s.size ≤ j := by simpa using h13
    have htl : tokLen stopB s k = j - k := tokLen_end hkj (.inl (by omega)) hall hj
    have htk : s.extract k j = tok stopB s k := by unfold tok; rw [htl, show k + (j - k) = j by omega]
    refine L.off rfl rfl rfl rfl ?_
    refine L.off rfl rfl rfl rfl ?_
    refine L.off rfl rfl rfl rfl ?_
    refine L.off rfl rfl rfl rfl ?_
    refine L.off rfl rfl rfl rfl ?_
    refine L.pkF rfl rfl rfl ?_
    refine L.nil ?_
    refine T.condF rfl ?_
    refine T.exit ?_
    refine T.go (fun _ _ h => h) ?_
    refine T.of_seq ?_
    have hts := tok_size stopB s k hk
    refine T.drawD 11 [(0, aS s), (1, aN k), (7, aN j)] [aS s, aN k, aN j, aS (tok stopB s k), aN j, aS s, aN k, aN j, aS (tok stopB s k), aB (nameB (tok stopB s k)), aS (tok stopB s k)] hmixed rfl rfl rfl rfl (by repeat constructor) ⟨?_, ?_, ?_, ?_, ?_, ?_, ?_, ?_, ?_, ?_, ?_, trivial⟩ ?_
    · intro σ' Ωf hsb hA
      refine L.mv (hsb.get rfl) rfl ?_
      exact L.last (G.finD rfl)
    · intro σ' Ωf hsb hA
      refine L.mv (hsb.get rfl) rfl ?_
      exact L.last (G.finD rfl)
    · intro σ' Ωf hsb hA
      refine L.mv (hsb.get rfl) rfl ?_
      exact L.last (G.finD rfl)
    · intro σ' Ωf hsb hA
      refine L.slS k j Tryz.underlying9 (hA 0 rfl) ⟨_, hA 1 rfl⟩ ⟨_, hA 2 rfl⟩ ⟨hkj, hj⟩ rfl ?_
      rw [htk]
      exact L.last (G.finD rfl)
    · intro σ' Ωf hsb hA
      refine L.mv (hsb.get rfl) rfl ?_
      exact L.last (G.finD rfl)
    · intro σ' Ωf hsb hA
      refine L.mv (hsb.get rfl) rfl ?_
      exact L.last (G.finD rfl)
    · intro σ' Ωf hsb hA
      refine L.mv (hsb.get rfl) rfl ?_
      exact L.last (G.finD rfl)
    · intro σ' Ωf hsb hA
      refine L.mv (hsb.get rfl) rfl ?_
      exact L.last (G.finD rfl)
    · intro σ' Ωf hsb hA
      refine L.slS k j Tryz.underlying9 (hA 5 rfl) ⟨_, hA 6 rfl⟩ ⟨_, hA 7 rfl⟩ ⟨hkj, hj⟩ rfl ?_
      rw [htk]
      exact L.last (G.finD rfl)
    · intro σ' Ωf hsb hA
      refine L.call e87 (evs1 (hA 8 rfl)) rfl (f87 _ (by omega)) ?_
      rintro _ _ ⟨rfl, rfl⟩
      exact L.last (G.finD rfl)
    · intro σ' Ωf hsb hA
      refine L.as (hA 3 rfl) rfl ?_
      exact L.last (G.finD rfl)
    refine L.as rfl rfl ?_
    refine L.as rfl rfl ?_
    refine L.last ?_
    refine T.go (fun _ _ h => h) ?_
    refine T.ret ?_
    exact G.ret (res3 Tryz.results58 rfl rfl rfl) ⟨rfl, by rw [show k + tokLen stopB s k = j by omega]⟩

set_option maxHeartbeats 8000000 in
theorem f40 (s : ByteArray) (k : Nat) (hk : k ≤ s.size) (hs : s.size ≤ 1000) : Fc Tryz.prog 40 [S_ s, N_ (k : Int)] [] (fun x Ω => Ω = [] ∧ ∃ (p : SPart) (j : Nat) (ok : Bool), x = .t [.g p.cs, N_ (j : Int), Bo ok] ∧ (ok = true → p.child = false) ∧ partS s k = (if ok = true then some (p, j) else none)) := by
  refine Fc.enter Tryz.func40 rfl Tryz.ntmps40 rfl fun X w => ?_
  refine T.rg ?_
  refine L.alloc z126 rfl rfl fun b4 => ?_
  refine L.as rfl rfl ?_
  refine L.as rfl rfl ?_
  refine L.nil ?_
  refine T.rg ?_
  refine L.bld p126 z126 rfl rfl rfl rfl rfl ?_
  refine L.alloc z126 rfl rfl fun b7 => ?_
  refine L.stog 0 s126 rfl rfl rfl rfl rfl rfl ?_
  refine L.nil ?_
  refine T.rg ?_
  refine L.conv (nil_row 9 1) ?_
  refine L.conv (cell_pub (j := 1) (o := 1) (i := 0) (sz := 1) (es := []) rfl rfl rfl rfl rfl rfl) ?_
  refine L.conv (nil_row 149 3) ?_
  refine L.conv (cell_pub (j := 1) (o := 2) (i := 0) (sz := 3) (es := []) rfl rfl rfl rfl rfl rfl) ?_
  refine L.as rfl rfl ?_
  refine L.nil ?_
  refine T.cut (fun σ Ω => ∃ m, (fun m σ Ω => ∃ (p : SPart) (j f : Nat) (sm : Bool), j ≤ s.size ∧ p.child = false ∧ p.classes.length ≤ j ∧ p.pairs.length ≤ j ∧ m = f ∧ s.size - j < f ∧ partS s k = (if sm = true ∨ nextB s j = 46 ∨ nextB s j = 91 then moreS s f j p else none) ∧ σ = [(8, aB sm), (7, aP b7 0), (4, aP b4 0), (1, aN j), (0, aS s)] ∧ Ω = [.blk b7 126 p.cs, .blk b4 126 zero77]) m σ Ω) ?_ ?_
  · rintro σ Ω ⟨m0, p0, j0, f0, sm0, g1, g2, g3, g4, rfl, g6, g7, rfl, rfl⟩
    refine T.of_seq ?_
    refine T.block ?_
    refine T.loop (fun m σ Ω => ∃ (p : SPart) (j f : Nat) (sm : Bool), j ≤ s.size ∧ p.child = false ∧ p.classes.length ≤ j ∧ p.pairs.length ≤ j ∧ m = f ∧ s.size - j < f ∧ partS s k = (if sm = true ∨ nextB s j = 46 ∨ nextB s j = 91 then moreS s f j p else none) ∧ σ = [(8, aB sm), (7, aP b7 0), (4, aP b4 0), (1, aN j), (0, aS s)] ∧ Ω = [.blk b7 126 p.cs, .blk b4 126 zero77]) (_) _ (⟨p0, j0, _, sm0, g1, g2, g3, g4, rfl, g6, g7, rfl, rfl⟩) (by repeat constructor) ?_
    rintro m σ Ω ⟨p, j, f, sm, hj, hpc, hlc, hlp, rfl, hf, hS, rfl, rfl⟩
    obtain ⟨g, rfl⟩ : ∃ g, m = g + 1 := ⟨m - 1, by omega⟩
    refine T.of_seq ?_
    refine T.rg ?_
    refine L.mv rfl rfl ?_
    refine L.mv rfl rfl ?_
    refine L.lenS Tryz.underlying9 rfl rfl ?_
    refine L.cmp rfl rfl rfl rfl ?_
    refine L.mv rfl rfl ?_
    refine L.caseB 65 rfl (fun h65 => ?_) (fun h65 => ?_)
    · skip
      have hlt : j < s.size := by simpa using h65
      have hnb := nextB_in hlt
      refine L.on rfl rfl ?_
      refine L.mv rfl rfl ?_
      refine L.on rfl rfl ?_
      refine L.mv rfl rfl ?_
      refine L.on rfl rfl ?_
      refine L.ixS j Tryz.underlying9 rfl rfl rfl hlt rfl ?_
      refine L.on rfl rfl ?_
      refine L.cmp rfl rfl rfl rfl ?_
      refine L.on rfl rfl ?_
      refine L.mv rfl rfl ?_
      refine L.caseB 70 rfl (fun h70 => ?_) (fun h70 => ?_)
      · skip
        have n46 : nextB s j = 46 := by rw [hnb]; exact b8_eq (d := 46) h70
        have htl := tokLen_le stopB s (j + 1)
        have hS2 : partS s k = match nameS s (j + 1) with | none => none | some (n, b) => moreS s g b { p with classes := p.classes ++ [n] } := by rw [hS, if_pos (.inr (.inl n46)), moreS, if_pos n46]; rfl
        refine L.off rfl rfl rfl rfl ?_
        refine L.off rfl rfl rfl rfl ?_
        refine L.off rfl rfl rfl rfl ?_
        refine L.off rfl rfl rfl rfl ?_
        refine L.on rfl rfl ?_
        refine L.pkT rfl rfl rfl ?_
        refine L.pkT rfl rfl rfl ?_
        refine L.nil ?_
        refine T.condT rfl ?_
        refine T.skip ?_
        refine T.go (fun _ _ h => h) ?_
        refine T.block ?_
        refine T.rg ?_
        refine L.mv rfl rfl ?_
        refine L.mv rfl rfl ?_
        refine L.ar ((j + 1 : Nat) : Int) rfl rfl rfl (by omega) rfl ?_
        refine L.call e58 rfl rfl (f58 s (j + 1) hlt hs) ?_
        rintro _ _ ⟨rfl, rfl⟩
        refine L.mv rfl rfl ?_
        refine L.ex rfl rfl rfl ?_
        refine L.ex rfl rfl rfl ?_
        refine L.ex rfl rfl rfl ?_
        refine L.as rfl rfl ?_
        refine L.as rfl rfl ?_
        refine L.as rfl rfl ?_
        refine L.nil ?_
        refine T.of_seq ?_
        refine T.rg ?_
        refine L.mv rfl rfl ?_
        refine L.not rfl rfl ?_
        refine L.nil ?_
        refine T.cond rfl (fun h86 => ?_) (fun h86 => ?_)
        · skip
          have hn : ¬ nameB (tok stopB s (j + 1)) = true := by simpa using h86
          refine T.rg ?_
          refine L.ldg 0 a126 s126 rfl rfl rfl rfl rfl ?_
          refine L.mv rfl rfl ?_
          refine L.ar ((j + 1 : Nat) : Int) rfl rfl rfl (by omega) rfl ?_
          refine L.stog 1 s126 rfl rfl rfl rfl rfl rfl ?_
          refine L.as rfl rfl ?_
          refine L.as rfl rfl ?_
          refine L.nil ?_
          refine T.ret ?_
          refine G.conv (drop_at (i := 0) rfl rfl) ?_
          exact G.retW (drop_at (i := 0) rfl rfl) (resCTT (i := 0) Tryz.results40 rfl a126 s126 rfl rfl rfl rfl) ⟨rfl, p, _, false, rfl, by simp, by rw [if_neg (by decide)]; rw [hS2, nameS, if_neg hn]⟩
        · skip
          have hn : nameB (tok stopB s (j + 1)) = true := by simpa using h86
          refine T.skip ?_
          refine T.go (fun _ _ h => h) ?_
          refine T.rg ?_
          refine L.as rfl rfl ?_
          refine L.nil ?_
          refine T.of_seq ?_
          refine T.rg ?_
          refine L.mv rfl rfl ?_
          refine L.mv rfl rfl ?_
          refine L.ixS j Tryz.underlying9 rfl rfl rfl hlt rfl ?_
          refine L.cmp rfl rfl rfl rfl ?_
          refine L.nil ?_
          refine T.cond rfl (fun h93 => ?_) (fun h93 => ?_)
          · skip
            refine T.rg ?_
            refine L.bsR rfl Tryz.underlying25 i9 rfl rfl rfl rfl rfl fun b94 => ?_
            refine L.fa Tryz.underlying126 rfl s25 rfl rfl ?_
            refine L.ld 1 o25 rfl rfl rfl rfl ?_
            refine L.app 0 Tryz.underlying25 i9 rfl rfl rfl rfl rfl (by simp; omega) (by simp; omega) rfl (fun _ => rfl) fun v97 => ?_
            refine L.mv rfl rfl ?_
            refine L.bsD rfl Tryz.underlying25 i9 rfl rfl rfl rfl rfl ?_
            refine L.app 0 Tryz.underlying25 i9 rfl rfl rfl rfl rfl (by simp; omega) (by simp; omega) rfl (fun _ => rfl) fun v100 => ?_
            refine L.pub 100 0 rfl rfl rfl ?_
            refine L.fa Tryz.underlying126 rfl s25 rfl rfl ?_
            refine L.sto 0 s25 rfl rfl rfl rfl rfl ?_
            refine L.nil ?_
            refine T.rg ?_
            refine L.mv rfl rfl ?_
            refine L.as rfl rfl ?_
            refine L.nil ?_
            refine T.exit ?_
            refine G.round g _ (by omega) ⟨{ p with classes := p.classes ++ [tok stopB s (j + 1)] }, (j + 1 + tokLen stopB s (j + 1)), g, true, by omega, hpc, by simp; omega, by show p.pairs.length ≤ _; omega, rfl, by omega, by rw [hS2, nameS, if_pos hn]; simp, rfl, by simp only [SPart.cs, strs_snoc]; rfl⟩ (by repeat constructor)
          · skip
            rw [← hnb, n46] at h93; exact absurd h93 (by decide)
      · skip
        have n46 : ¬ nextB s j = 46 := by rw [hnb]; exact b8_ne (d := 46) h70
        refine L.on rfl rfl ?_
        refine L.mv rfl rfl ?_
        refine L.on rfl rfl ?_
        refine L.mv rfl rfl ?_
        refine L.on rfl rfl ?_
        refine L.ixS j Tryz.underlying9 rfl rfl rfl hlt rfl ?_
        refine L.on rfl rfl ?_
        refine L.cmp rfl rfl rfl rfl ?_
        refine L.on rfl rfl ?_
        refine L.pkF rfl rfl rfl ?_
        refine L.pkT rfl rfl rfl ?_
        refine L.nil ?_
        refine T.cond rfl (fun h76 => ?_) (fun h76 => ?_)
        · skip
          have n91 : nextB s j = 91 := by rw [hnb]; exact b8_eq (d := 91) h76
          have htl := tokLen_le stopB s (j + 1)
          have hS3 : partS s k = match pairS s (j + 1) with | none => none | some (q, b) => moreS s g b { p with pairs := p.pairs ++ [q] } := by rw [hS, if_pos (.inr (.inr n91)), moreS, if_neg n46, if_pos n91]; rfl
          refine T.skip ?_
          refine T.go (fun _ _ h => h) ?_
          refine T.block ?_
          refine T.rg ?_
          refine L.mv rfl rfl ?_
          refine L.mv rfl rfl ?_
          refine L.ar ((j + 1 : Nat) : Int) rfl rfl rfl (by omega) rfl ?_
          refine L.call e58 rfl rfl (f58 s (j + 1) hlt hs) ?_
          rintro _ _ ⟨rfl, rfl⟩
          refine L.mv rfl rfl ?_
          refine L.ex rfl rfl rfl ?_
          refine L.ex rfl rfl rfl ?_
          refine L.ex rfl rfl rfl ?_
          refine L.as rfl rfl ?_
          refine L.as rfl rfl ?_
          refine L.as rfl rfl ?_
          refine L.nil ?_
          refine T.of_seq ?_
          refine T.rg ?_
          refine L.mv rfl rfl ?_
          refine L.not rfl rfl ?_
          refine L.nil ?_
          refine T.cond rfl (fun h86 => ?_) (fun h86 => ?_)
          · skip
            have hn : ¬ nameB (tok stopB s (j + 1)) = true := by simpa using h86
            refine T.rg ?_
            refine L.ldg 0 a126 s126 rfl rfl rfl rfl rfl ?_
            refine L.mv rfl rfl ?_
            refine L.ar ((j + 1 : Nat) : Int) rfl rfl rfl (by omega) rfl ?_
            refine L.stog 1 s126 rfl rfl rfl rfl rfl rfl ?_
            refine L.as rfl rfl ?_
            refine L.as rfl rfl ?_
            refine L.nil ?_
            refine T.ret ?_
            refine G.conv (drop_at (i := 0) rfl rfl) ?_
            exact G.retW (drop_at (i := 0) rfl rfl) (resCTT (i := 0) Tryz.results40 rfl a126 s126 rfl rfl rfl rfl) ⟨rfl, p, _, false, rfl, by simp, by rw [if_neg (by decide)]; rw [hS3, pairS, nameS, if_neg hn]⟩
          · skip
            have hn : nameB (tok stopB s (j + 1)) = true := by simpa using h86
            refine T.skip ?_
            refine T.go (fun _ _ h => h) ?_
            refine T.rg ?_
            refine L.as rfl rfl ?_
            refine L.nil ?_
            refine T.of_seq ?_
            refine T.rg ?_
            refine L.mv rfl rfl ?_
            refine L.mv rfl rfl ?_
            refine L.ixS j Tryz.underlying9 rfl rfl rfl hlt rfl ?_
            refine L.cmp rfl rfl rfl rfl ?_
            refine L.nil ?_
            refine T.cond rfl (fun h93 => ?_) (fun h93 => ?_)
            · skip
              rw [← hnb] at h93; exact absurd (b8_eq (d := 46) h93) n46
            · skip
              refine T.skip ?_
              refine T.go (fun _ _ h => h) ?_
              refine T.rg ?_
              refine L.mv rfl rfl ?_
              refine L.bld p149 z149 rfl rfl rfl rfl rfl ?_
              refine L.alloc z149 rfl rfl fun b15 => ?_
              refine L.stog 0 s149 rfl rfl rfl rfl rfl rfl ?_
              refine L.nil ?_
              refine T.cut (fun σ Ω => ∃ (q : ByteArray × ByteArray × Bool) (i : Nat), j < i ∧ i ≤ s.size ∧ pairS s (j + 1) = (if nextB s i = 93 then some (q, i + 1) else none) ∧ σ = [(15, aP b15 0), (13, aN i), (8, aB true), (7, aP b7 0), (4, aP b4 0), (0, aS s)] ∧ Ω = [.blk b15 149 [.d (.s q.1), .d (.s q.2.1), .d (.b q.2.2)], .blk b7 126 p.cs, .blk b4 126 zero77]) ?_ ?_
              · rintro σ Ω ⟨q, i, hji, hi, hq, rfl, rfl⟩
                refine T.of_seq ?_
                refine T.rg ?_
                refine L.mv rfl rfl ?_
                refine L.mv rfl rfl ?_
                refine L.lenS Tryz.underlying9 rfl rfl ?_
                refine L.cmp rfl rfl rfl rfl ?_
                refine L.mv rfl rfl ?_
                refine L.caseB 146 rfl (fun h146 => ?_) (fun h146 => ?_)
                · skip
                  have hge3 : s.size ≤ i := by simpa using h146
                  have n93 : ¬ nextB s i = 93 := by rw [nextB_out hge3]; decide
                  refine L.off rfl rfl rfl rfl ?_
                  refine L.off rfl rfl rfl rfl ?_
                  refine L.off rfl rfl rfl rfl ?_
                  refine L.off rfl rfl rfl rfl ?_
                  refine L.pkT rfl rfl rfl ?_
                  refine L.nil ?_
                  refine T.condT rfl ?_
                  refine T.rg ?_
                  refine L.ldg 1 a126 s126 rfl rfl rfl rfl rfl ?_
                  refine L.mv rfl rfl ?_
                  refine L.stog 2 s126 rfl rfl rfl rfl rfl rfl ?_
                  refine L.as rfl rfl ?_
                  refine L.as rfl rfl ?_
                  refine L.nil ?_
                  refine T.ret ?_
                  refine G.conv (drop_at (i := 0) rfl rfl) ?_
                  refine G.conv (drop_at (i := 0) rfl rfl) ?_
                  exact G.retW (drop_at (i := 0) rfl rfl) (resCTT (i := 0) Tryz.results40 rfl a126 s126 rfl rfl rfl rfl) ⟨rfl, p, _, false, rfl, by simp, by rw [if_neg (by decide)]; rw [hS3, hq, if_neg n93]⟩
                · skip
                  have hlt3 : i < s.size := by simpa using h146
                  have hnb3 := nextB_in hlt3
                  refine L.on rfl rfl ?_
                  refine L.mv rfl rfl ?_
                  refine L.on rfl rfl ?_
                  refine L.mv rfl rfl ?_
                  refine L.on rfl rfl ?_
                  refine L.ixS i Tryz.underlying9 rfl rfl rfl hlt3 rfl ?_
                  refine L.on rfl rfl ?_
                  refine L.cmp rfl rfl rfl rfl ?_
                  refine L.pkF rfl rfl rfl ?_
                  refine L.nil ?_
                  refine T.cond rfl (fun h151 => ?_) (fun h151 => ?_)
                  · skip
                    have n93 : ¬ nextB s i = 93 := by rw [hnb3]; intro e; rw [e] at h151; exact absurd h151 (by decide)
                    refine T.rg ?_
                    refine L.ldg 1 a126 s126 rfl rfl rfl rfl rfl ?_
                    refine L.mv rfl rfl ?_
                    refine L.stog 2 s126 rfl rfl rfl rfl rfl rfl ?_
                    refine L.as rfl rfl ?_
                    refine L.as rfl rfl ?_
                    refine L.nil ?_
                    refine T.ret ?_
                    refine G.conv (drop_at (i := 0) rfl rfl) ?_
                    refine G.conv (drop_at (i := 0) rfl rfl) ?_
                    exact G.retW (drop_at (i := 0) rfl rfl) (resCTT (i := 0) Tryz.results40 rfl a126 s126 rfl rfl rfl rfl) ⟨rfl, p, _, false, rfl, by simp, by rw [if_neg (by decide)]; rw [hS3, hq, if_neg n93]⟩
                  · skip
                    have n93 : nextB s i = 93 := by rw [hnb3]; exact b8_eq (d := 93) (by simpa using h151)
                    refine T.skip ?_
                    refine T.go (fun _ _ h => h) ?_
                    refine T.of_seq ?_
                    refine T.draw 6 [(15, aP b15 0), (13, aN i), (8, aB true), (7, aP b7 0), (4, aP b4 0), (0, aS s)] [.blk b15 149 [.d (.s q.1), .d (.s q.2.1), .d (.b q.2.2)], .blk b7 126 p.cs, .blk b4 126 zero77] (fun _ => []) (fun n x _ post => match n with
                      | 0 => (∃ g, x = aR (.slice (some ⟨g, 0, none⟩) 0 0)) ∧ post = []
                      | 1 => x = aP b7 2 ∧ post = []
                      | 2 => x = aL 3 (qps p.pairs) ∧ post = []
                      | 3 => ∃ v, x = aR v ∧ Em v 149 3 (qps p.pairs) post
                      | 4 => x = .v (.g [.d (.s q.1), .d (.s q.2.1), .d (.b q.2.2)]) ∧ post = []
                      | 5 => x = aL 3 [[D.s q.1, D.s q.2.1, D.b q.2.2]] ∧ post = []
                      | _ => False) hmixed rfl rfl rfl (by repeat constructor) (List.Perm.refl _) ⟨?_, ?_, ?_, ?_, ?_, ?_, trivial⟩ ?_
                    · intro X posts σ' Ωf hsb hA
                      refine L.bs0 Tryz.underlying124 i149 rfl rfl fun g => ?_
                      exact L.last (G.fin [] ⟨⟨g, rfl⟩, rfl⟩ rfl)
                    · intro X posts σ' Ωf hsb hA
                      refine L.fa Tryz.underlying126 rfl s124 (hsb.get rfl) rfl ?_
                      exact L.last (G.fin [] ⟨rfl, rfl⟩ rfl)
                    · intro X posts σ' Ωf hsb hA
                      have l1 : σ'.lookup 155 = some (aP b7 2) := (hA 1 rfl).1.trans (congrArg some (hA 1 rfl).2.1)
                      refine L.ld 1 o124 l1 rfl rfl rfl ?_
                      exact L.last (G.fin [] ⟨rfl, rfl⟩ rfl)
                    · intro X posts σ' Ωf hsb hA
                      obtain ⟨g, hg⟩ : ∃ g, X 0 = aR (.slice (some ⟨g, 0, none⟩) 0 0) := (hA 0 rfl).2.1
                      have l0 : σ'.lookup 154 = some (aR (.slice (some ⟨g, 0, none⟩) 0 0)) := (hA 0 rfl).1.trans (congrArg some hg)
                      have l2 : σ'.lookup 156 = some (aL 3 (qps p.pairs)) := (hA 2 rfl).1.trans (congrArg some (hA 2 rfl).2.1)
                      refine L.apE Tryz.underlying124 i149 rfl l0 l2 (by simp; omega) (by simp; omega) rfl fun v post hE => ?_
                      exact L.last (G.fin post ⟨v, rfl, hE⟩ rfl)
                    · intro X posts σ' Ωf hsb hA
                      refine L.ldg 0 a149 s149 (hsb.get rfl) rfl rfl rfl rfl ?_
                      exact L.last (G.fin [] ⟨rfl, rfl⟩ rfl)
                    · intro X posts σ' Ωf hsb hA
                      have l4 : σ'.lookup 158 = some (.v (.g [.d (.s q.1), .d (.s q.2.1), .d (.b q.2.2)])) := (hA 4 rfl).1.trans (congrArg some (hA 4 rfl).2.1)
                      refine L.bsD rfl Tryz.underlying124 i149 rfl rfl (evp1 l4) rfl rfl ?_
                      exact L.last (G.fin [] ⟨rfl, rfl⟩ rfl)
                    intro X posts hR
                    obtain ⟨v, hv, hE⟩ : ∃ v, X 3 = aR v ∧ Em v 149 3 (qps p.pairs) (posts 3) := hR 3 rfl
                    have p0 : posts 0 = [] := (hR 0 rfl).2
                    have p1 : posts 1 = [] := (hR 1 rfl).2
                    have p2 : posts 2 = [] := (hR 2 rfl).2
                    have p4 : posts 4 = [] := (hR 4 rfl).2
                    have p5 : posts 5 = [] := (hR 5 rfl).2
                    have hp : (List.range 6).flatMap posts = posts 3 := by
                      show posts 0 ++ (posts 1 ++ (posts 2 ++ (posts 3 ++ (posts 4 ++ (posts 5 ++ []))))) = posts 3
                      simp [p0, p1, p2, p4, p5]
                    rw [hp]
                    refine L.sub (σ' := [(157, aR v), (159, aL 3 [[D.s q.1, D.s q.2.1, D.b q.2.2]]), (15, aP b15 0), (13, aN i), (8, aB true), (7, aP b7 0), (4, aP b4 0), (0, aS s)]) ⟨congrArg some hv, congrArg some (hR 5 rfl).1, rfl, rfl, rfl, rfl, rfl, rfl, trivial⟩ ?_
                    refine L.ap1 Tryz.underlying124 i149 rfl rfl rfl rfl hE (by simp) (by simp; omega) (by simp; omega) rfl fun v160 => ?_
                    refine L.pub 160 0 rfl rfl rfl ?_
                    refine L.fa Tryz.underlying126 rfl s124 rfl rfl ?_
                    refine L.sto 1 s124 rfl rfl rfl rfl rfl ?_
                    refine L.last ?_
                    refine T.go (fun _ _ h => h) ?_
                    refine T.region ?_
                    refine L.mv rfl rfl ?_
                    refine L.ar ((i + 1 : Nat) : Int) rfl rfl rfl (by omega) rfl ?_
                    refine L.as rfl rfl ?_
                    refine L.last ?_
                    refine G.conv (drop_at (i := 0) rfl rfl) ?_
                    refine G.round g _ (by omega) ⟨{ p with pairs := p.pairs ++ [q] }, i + 1, g, true, by omega, hpc, by show p.classes.length ≤ _; omega, by simp; omega, rfl, by omega, by rw [hS3, hq, if_pos n93]; simp, rfl, by simp only [SPart.cs, qps_snoc]⟩ (by repeat constructor)
              · skip
                refine T.rg ?_
                refine L.mv rfl rfl ?_
                refine L.mv rfl rfl ?_
                refine L.lenS Tryz.underlying9 rfl rfl ?_
                refine L.cmp rfl rfl rfl rfl ?_
                refine L.mv rfl rfl ?_
                refine L.caseB 109 rfl (fun h109 => ?_) (fun h109 => ?_)
                · skip
                  have hlt2 : (j + 1 + tokLen stopB s (j + 1)) < s.size := by simp at h109; omega
                  have hnb2 := nextB_in hlt2
                  refine L.on rfl rfl ?_
                  refine L.mv rfl rfl ?_
                  refine L.on rfl rfl ?_
                  refine L.mv rfl rfl ?_
                  refine L.on rfl rfl ?_
                  refine L.ixS (j + 1 + tokLen stopB s (j + 1)) Tryz.underlying9 rfl rfl rfl hlt2 rfl ?_
                  refine L.on rfl rfl ?_
                  refine L.cmp rfl rfl rfl rfl ?_
                  refine L.pkT rfl rfl rfl ?_
                  refine L.nil ?_
                  refine T.cond rfl (fun h114 => ?_) (fun h114 => ?_)
                  · skip
                    have n61 : nextB s (j + 1 + tokLen stopB s (j + 1)) = 61 := by rw [hnb2]; exact b8_eq (d := 61) h114
                    have htl2 := tokLen_le (fun c => c == 93) s ((j + 1 + tokLen stopB s (j + 1)) + 1)
                    refine T.rg ?_
                    refine L.mv rfl rfl ?_
                    refine L.ar (((j + 1 + tokLen stopB s (j + 1)) + 1 : Nat) : Int) rfl rfl rfl (by omega) rfl ?_
                    refine L.as rfl rfl ?_
                    refine L.nil ?_
                    refine T.rg ?_
                    refine L.mv rfl rfl ?_
                    refine L.as rfl rfl ?_
                    refine L.nil ?_
                    refine T.of_seq ?_
                    refine T.block ?_
                    refine T.loop (fun m σ Ω => ∃ i : Nat, (j + 1 + tokLen stopB s (j + 1)) + 1 ≤ i ∧ i ≤ s.size ∧ m = s.size - i ∧ ((s.data.toList.drop ((j + 1 + tokLen stopB s (j + 1)) + 1)).take (i - ((j + 1 + tokLen stopB s (j + 1)) + 1))).all (fun c => !(c == 93)) = true ∧ σ = [(13, aN i), (16, aN ((j + 1 + tokLen stopB s (j + 1)) + 1 : Nat)), (15, aP b15 0), (8, aB true), (7, aP b7 0), (4, aP b4 0), (0, aS s)] ∧ Ω = [.blk b15 149 [.d (.s (tok stopB s (j + 1))), .d (.s ⟨#[]⟩), .d (.b true)], .blk b7 126 p.cs, .blk b4 126 zero77]) (_) _ (⟨(j + 1 + tokLen stopB s (j + 1)) + 1, Nat.le_refl _, hlt2, rfl, by simp, rfl, rfl⟩) (by repeat constructor) ?_
                    rintro m σ Ω ⟨i, hfi, hi, rfl, hall, rfl, rfl⟩
                    refine T.of_seq ?_
                    refine T.rg ?_
                    refine L.mv rfl rfl ?_
                    refine L.mv rfl rfl ?_
                    refine L.lenS Tryz.underlying9 rfl rfl ?_
                    refine L.cmp rfl rfl rfl rfl ?_
                    refine L.mv rfl rfl ?_
                    refine L.caseB 122 rfl (fun h122 => ?_) (fun h122 => ?_)
                    · skip
                      have hlt3 : i < s.size := by simpa using h122
                      refine L.on rfl rfl ?_
                      refine L.mv rfl rfl ?_
                      refine L.on rfl rfl ?_
                      refine L.mv rfl rfl ?_
                      refine L.on rfl rfl ?_
                      refine L.ixS i Tryz.underlying9 rfl rfl rfl hlt3 rfl ?_
                      refine L.on rfl rfl ?_
                      refine L.cmp rfl rfl rfl rfl ?_
                      refine L.pkT rfl rfl rfl ?_
                      refine L.nil ?_
                      refine T.cond rfl (fun h127 => ?_) (fun h127 => ?_)
                      · skip
                        refine T.skip ?_
                        refine T.go (fun _ _ h => h) ?_
                        refine T.block ?_
                        refine T.region ?_
                        refine L.mv rfl rfl ?_
                        refine L.ar ((i + 1 : Nat) : Int) rfl rfl rfl (by omega) rfl ?_
                        refine L.as rfl rfl ?_
                        refine L.last ?_
                        refine G.round (s.size - (i + 1)) _ (by omega) ⟨i + 1, by omega, by omega, rfl, ?_, rfl, rfl⟩ (by repeat constructor)
                        rw [drop_take_succ hfi hlt3, List.all_append, hall]
                        have n127 : ¬ s[i] = 93 := by intro e; rw [e] at h127; exact absurd h127 (by decide)
                        simp [n127]
                      · skip
                        have h93s : s[i] = 93 := b8_eq (d := 93) (by simpa using h127)
                        have htv : tokLen (fun c => c == 93) s ((j + 1 + tokLen stopB s (j + 1)) + 1) = i - ((j + 1 + tokLen stopB s (j + 1)) + 1) := tokLen_end hfi (.inr ⟨hlt3, by simp [h93s]⟩) hall hi
                        obtain rfl : i = (j + 1 + tokLen stopB s (j + 1)) + 1 + tokLen (fun c => c == 93) s ((j + 1 + tokLen stopB s (j + 1)) + 1) := by omega
                        refine T.exit ?_
                        refine T.go (fun _ _ h => h) ?_
                        refine T.rg ?_
                        refine L.fa Tryz.underlying149 rfl s4 rfl rfl ?_
                        refine L.sto 0 s4 rfl rfl rfl rfl rfl ?_
                        refine L.nil ?_
                        refine T.rg ?_
                        refine L.mv rfl rfl ?_
                        refine L.mv rfl rfl ?_
                        refine L.mv rfl rfl ?_
                        refine L.slS ((j + 1 + tokLen stopB s (j + 1)) + 1) ((j + 1 + tokLen stopB s (j + 1)) + 1 + tokLen (fun c => c == 93) s ((j + 1 + tokLen stopB s (j + 1)) + 1)) Tryz.underlying9 rfl ⟨_, rfl⟩ ⟨_, rfl⟩ ⟨by omega, by omega⟩ rfl ?_
                        refine L.fa Tryz.underlying149 rfl s9 rfl rfl ?_
                        refine L.sto 0 s9 rfl rfl rfl rfl rfl ?_
                        refine L.nil ?_
                        refine T.rg ?_
                        refine L.fa Tryz.underlying149 rfl s9 rfl rfl ?_
                        refine L.ld 0 o9 rfl rfl rfl rfl ?_
                        have hts2 := tok_size (fun c => c == 93) s ((j + 1 + tokLen stopB s (j + 1)) + 1) (by omega)
                        refine L.call e59 rfl rfl (f59 (tok (fun c => c == 93) s ((j + 1 + tokLen stopB s (j + 1)) + 1)) (by omega)) ?_
                        rintro _ _ ⟨rfl, rfl⟩
                        refine L.not rfl rfl ?_
                        refine L.nil ?_
                        refine T.cond rfl (fun h139 => ?_) (fun h139 => ?_)
                        · skip
                          have hv : ¬ valueB (tok (fun c => c == 93) s ((j + 1 + tokLen stopB s (j + 1)) + 1)) = true := by simpa using h139
                          refine T.rg ?_
                          refine L.ldg 1 a126 s126 rfl rfl rfl rfl rfl ?_
                          refine L.mv rfl rfl ?_
                          refine L.stog 2 s126 rfl rfl rfl rfl rfl rfl ?_
                          refine L.as rfl rfl ?_
                          refine L.as rfl rfl ?_
                          refine L.nil ?_
                          refine T.ret ?_
                          refine G.conv (drop_at (i := 0) rfl rfl) ?_
                          refine G.conv (drop_at (i := 0) rfl rfl) ?_
                          exact G.retW (drop_at (i := 0) rfl rfl) (resCTT (i := 0) Tryz.results40 rfl a126 s126 rfl rfl rfl rfl) ⟨rfl, p, _, false, rfl, by simp, by rw [if_neg (by decide)]; rw [hS3]; simp [pairS, nameS, hn, n61, hv]⟩
                        · skip
                          have hv : valueB (tok (fun c => c == 93) s ((j + 1 + tokLen stopB s (j + 1)) + 1)) = true := by simpa using h139
                          refine T.skip ?_
                          exact G.cut [(15, aP b15 0), (13, aN ((j + 1 + tokLen stopB s (j + 1)) + 1 + tokLen (fun c => c == 93) s ((j + 1 + tokLen stopB s (j + 1)) + 1) : Nat)), (8, aB true), (7, aP b7 0), (4, aP b4 0), (0, aS s)] ⟨(tok stopB s (j + 1), tok (fun c => c == 93) s ((j + 1 + tokLen stopB s (j + 1)) + 1), false), (j + 1 + tokLen stopB s (j + 1)) + 1 + tokLen (fun c => c == 93) s ((j + 1 + tokLen stopB s (j + 1)) + 1), by omega, by omega, by simp [pairS, nameS, hn, n61, hv], rfl, rfl⟩ (by repeat constructor)
                    · skip
                      have htv : tokLen (fun c => c == 93) s ((j + 1 + tokLen stopB s (j + 1)) + 1) = i - ((j + 1 + tokLen stopB s (j + 1)) + 1) := tokLen_end hfi (.inl (by have : s.size ≤ i := (by simpa using h122); omega)) hall hi
                      obtain rfl : i = (j + 1 + tokLen stopB s (j + 1)) + 1 + tokLen (fun c => c == 93) s ((j + 1 + tokLen stopB s (j + 1)) + 1) := by omega
                      refine L.off rfl rfl rfl rfl ?_
                      refine L.off rfl rfl rfl rfl ?_
                      refine L.off rfl rfl rfl rfl ?_
                      refine L.off rfl rfl rfl rfl ?_
                      refine L.pkF rfl rfl rfl ?_
                      refine L.nil ?_
                      refine T.condF rfl ?_
                      refine T.exit ?_
                      refine T.go (fun _ _ h => h) ?_
                      refine T.rg ?_
                      refine L.fa Tryz.underlying149 rfl s4 rfl rfl ?_
                      refine L.sto 0 s4 rfl rfl rfl rfl rfl ?_
                      refine L.nil ?_
                      refine T.rg ?_
                      refine L.mv rfl rfl ?_
                      refine L.mv rfl rfl ?_
                      refine L.mv rfl rfl ?_
                      refine L.slS ((j + 1 + tokLen stopB s (j + 1)) + 1) ((j + 1 + tokLen stopB s (j + 1)) + 1 + tokLen (fun c => c == 93) s ((j + 1 + tokLen stopB s (j + 1)) + 1)) Tryz.underlying9 rfl ⟨_, rfl⟩ ⟨_, rfl⟩ ⟨by omega, by omega⟩ rfl ?_
                      refine L.fa Tryz.underlying149 rfl s9 rfl rfl ?_
                      refine L.sto 0 s9 rfl rfl rfl rfl rfl ?_
                      refine L.nil ?_
                      refine T.rg ?_
                      refine L.fa Tryz.underlying149 rfl s9 rfl rfl ?_
                      refine L.ld 0 o9 rfl rfl rfl rfl ?_
                      have hts2 := tok_size (fun c => c == 93) s ((j + 1 + tokLen stopB s (j + 1)) + 1) (by omega)
                      refine L.call e59 rfl rfl (f59 (tok (fun c => c == 93) s ((j + 1 + tokLen stopB s (j + 1)) + 1)) (by omega)) ?_
                      rintro _ _ ⟨rfl, rfl⟩
                      refine L.not rfl rfl ?_
                      refine L.nil ?_
                      refine T.cond rfl (fun h139 => ?_) (fun h139 => ?_)
                      · skip
                        have hv : ¬ valueB (tok (fun c => c == 93) s ((j + 1 + tokLen stopB s (j + 1)) + 1)) = true := by simpa using h139
                        refine T.rg ?_
                        refine L.ldg 1 a126 s126 rfl rfl rfl rfl rfl ?_
                        refine L.mv rfl rfl ?_
                        refine L.stog 2 s126 rfl rfl rfl rfl rfl rfl ?_
                        refine L.as rfl rfl ?_
                        refine L.as rfl rfl ?_
                        refine L.nil ?_
                        refine T.ret ?_
                        refine G.conv (drop_at (i := 0) rfl rfl) ?_
                        refine G.conv (drop_at (i := 0) rfl rfl) ?_
                        exact G.retW (drop_at (i := 0) rfl rfl) (resCTT (i := 0) Tryz.results40 rfl a126 s126 rfl rfl rfl rfl) ⟨rfl, p, _, false, rfl, by simp, by rw [if_neg (by decide)]; rw [hS3]; simp [pairS, nameS, hn, n61, hv]⟩
                      · skip
                        have hv : valueB (tok (fun c => c == 93) s ((j + 1 + tokLen stopB s (j + 1)) + 1)) = true := by simpa using h139
                        refine T.skip ?_
                        exact G.cut [(15, aP b15 0), (13, aN ((j + 1 + tokLen stopB s (j + 1)) + 1 + tokLen (fun c => c == 93) s ((j + 1 + tokLen stopB s (j + 1)) + 1) : Nat)), (8, aB true), (7, aP b7 0), (4, aP b4 0), (0, aS s)] ⟨(tok stopB s (j + 1), tok (fun c => c == 93) s ((j + 1 + tokLen stopB s (j + 1)) + 1), false), (j + 1 + tokLen stopB s (j + 1)) + 1 + tokLen (fun c => c == 93) s ((j + 1 + tokLen stopB s (j + 1)) + 1), by omega, by omega, by simp [pairS, nameS, hn, n61, hv], rfl, rfl⟩ (by repeat constructor)
                  · skip
                    have n61 : ¬ nextB s (j + 1 + tokLen stopB s (j + 1)) = 61 := by rw [hnb2]; exact b8_ne (d := 61) h114
                    refine T.skip ?_
                    exact G.cut [(15, aP b15 0), (13, aN ((j + 1 + tokLen stopB s (j + 1)) : Nat)), (8, aB true), (7, aP b7 0), (4, aP b4 0), (0, aS s)] ⟨(tok stopB s (j + 1), ByteArray.empty, true), (j + 1 + tokLen stopB s (j + 1)), by omega, by omega, by simp [pairS, nameS, hn, n61], rfl, rfl⟩ (by repeat constructor)
                · skip
                  have hge2 : s.size ≤ (j + 1 + tokLen stopB s (j + 1)) := by simp at h109; omega
                  have n61 : ¬ nextB s (j + 1 + tokLen stopB s (j + 1)) = 61 := by rw [nextB_out hge2]; decide
                  refine L.off rfl rfl rfl rfl ?_
                  refine L.off rfl rfl rfl rfl ?_
                  refine L.off rfl rfl rfl rfl ?_
                  refine L.off rfl rfl rfl rfl ?_
                  refine L.pkF rfl rfl rfl ?_
                  refine L.nil ?_
                  refine T.condF rfl ?_
                  refine T.skip ?_
                  exact G.cut [(15, aP b15 0), (13, aN ((j + 1 + tokLen stopB s (j + 1)) : Nat)), (8, aB true), (7, aP b7 0), (4, aP b4 0), (0, aS s)] ⟨(tok stopB s (j + 1), ByteArray.empty, true), (j + 1 + tokLen stopB s (j + 1)), by omega, by omega, by simp [pairS, nameS, hn, n61], rfl, rfl⟩ (by repeat constructor)
        · skip
          have n91 : ¬ nextB s j = 91 := by rw [hnb]; exact b8_ne (d := 91) h76
          refine T.exit ?_
          refine T.go (fun _ _ h => h) ?_
          refine T.rg ?_
          refine L.ldg 0 a126 s126 rfl rfl rfl rfl rfl ?_
          refine L.mv rfl rfl ?_
          refine L.mv rfl rfl ?_
          refine L.stog 1 s126 rfl rfl rfl rfl rfl rfl ?_
          refine L.as rfl rfl ?_
          refine L.as rfl rfl ?_
          refine L.nil ?_
          refine T.ret ?_
          refine G.conv (drop_at (i := 0) rfl rfl) ?_
          exact G.retW (drop_at (i := 0) rfl rfl) (resCTT (i := 0) Tryz.results40 rfl a126 s126 rfl rfl rfl rfl) ⟨rfl, p, j, sm, rfl, fun _ => hpc, by rw [hS]; cases sm <;> simp [n46, n91, moreS]⟩
    · skip
      have hge : s.size ≤ j := by simpa using h65
      refine L.off rfl rfl rfl rfl ?_
      refine L.off rfl rfl rfl rfl ?_
      refine L.off rfl rfl rfl rfl ?_
      refine L.off rfl rfl rfl rfl ?_
      refine L.off rfl rfl rfl rfl ?_
      refine L.offU rfl rfl rfl ?_
      refine L.offU rfl rfl rfl ?_
      refine L.offU rfl rfl rfl ?_
      refine L.offU rfl rfl rfl ?_
      refine L.off rfl rfl rfl rfl ?_
      refine L.pkF rfl rfl rfl ?_
      refine L.nil ?_
      refine T.condF rfl ?_
      refine T.exit ?_
      refine T.go (fun _ _ h => h) ?_
      refine T.rg ?_
      refine L.ldg 0 a126 s126 rfl rfl rfl rfl rfl ?_
      refine L.mv rfl rfl ?_
      refine L.mv rfl rfl ?_
      refine L.stog 1 s126 rfl rfl rfl rfl rfl rfl ?_
      refine L.as rfl rfl ?_
      refine L.as rfl rfl ?_
      refine L.nil ?_
      refine T.ret ?_
      refine G.conv (drop_at (i := 0) rfl rfl) ?_
      exact G.retW (drop_at (i := 0) rfl rfl) (resCTT (i := 0) Tryz.results40 rfl a126 s126 rfl rfl rfl rfl) ⟨rfl, p, j, sm, rfl, fun _ => hpc, by rw [hS]; cases sm <;> simp [nextB_out hge, moreS]⟩
  · skip
    refine T.rg ?_
    refine L.mv rfl rfl ?_
    refine L.mv rfl rfl ?_
    refine L.lenS Tryz.underlying9 rfl rfl ?_
    refine L.cmp rfl rfl rfl rfl ?_
    refine L.mv rfl rfl ?_
    refine L.caseB 22 rfl (fun h22 => ?_) (fun h22 => ?_)
    · skip
      have hlt : k < s.size := by simpa using h22
      have hnb := nextB_in hlt
      refine L.on rfl rfl ?_
      refine L.mv rfl rfl ?_
      refine L.on rfl rfl ?_
      refine L.mv rfl rfl ?_
      refine L.on rfl rfl ?_
      refine L.ixS k Tryz.underlying9 rfl rfl rfl hlt rfl ?_
      refine L.on rfl rfl ?_
      refine L.cmp rfl rfl rfl rfl ?_
      refine L.pkT rfl rfl rfl ?_
      refine L.nil ?_
      refine T.cond rfl (fun h27 => ?_) (fun h27 => ?_)
      · skip
        have n42 : nextB s k = 42 := by rw [hnb]; exact b8_eq (d := 42) h27
        refine T.rg ?_
        refine L.fa Tryz.underlying126 rfl s9 rfl rfl ?_
        refine L.sto 0 s9 rfl rfl rfl rfl rfl ?_
        refine L.nil ?_
        refine T.rg ?_
        refine L.as rfl rfl ?_
        refine L.nil ?_
        refine T.region ?_
        refine L.mv rfl rfl ?_
        refine L.ar ((k + 1 : Nat) : Int) rfl rfl rfl (by omega) rfl ?_
        refine L.as rfl rfl ?_
        refine L.last ?_
        exact G.cut [(8, aB true), (7, aP b7 0), (4, aP b4 0), (1, aN (k + 1 : Nat)), (0, aS s)] ⟨s.size + 1, ⟨starB, [], [], false⟩, k + 1, s.size + 1, true, by omega, rfl, Nat.zero_le _, Nat.zero_le _, rfl, by omega, by simp [partS, n42, noPart], rfl, rfl⟩ (by repeat constructor)
      · skip
        have n42 : ¬ nextB s k = 42 := by rw [hnb]; exact b8_ne (d := 42) h27
        refine T.rg ?_
        refine L.mv rfl rfl ?_
        refine L.mv rfl rfl ?_
        refine L.lenS Tryz.underlying9 rfl rfl ?_
        refine L.cmp rfl rfl rfl rfl ?_
        refine L.mv rfl rfl ?_
        refine L.caseB 35 rfl (fun h35 => ?_) (fun h35 => ?_)
        · skip
          refine L.on rfl rfl ?_
          refine L.mv rfl rfl ?_
          refine L.on rfl rfl ?_
          refine L.mv rfl rfl ?_
          refine L.on rfl rfl ?_
          refine L.ixS k Tryz.underlying9 rfl rfl rfl hlt rfl ?_
          refine L.on rfl rfl ?_
          refine L.cmp rfl rfl rfl rfl ?_
          refine L.pkT rfl rfl rfl ?_
          refine L.mv rfl rfl ?_
          refine L.caseB 41 rfl (fun h41 => ?_) (fun h41 => ?_)
          · skip
            have n46 : ¬ nextB s k = 46 := by rw [hnb]; intro e; rw [e] at h41; exact absurd h41 (by decide)
            refine L.on rfl rfl ?_
            refine L.mv rfl rfl ?_
            refine L.on rfl rfl ?_
            refine L.mv rfl rfl ?_
            refine L.on rfl rfl ?_
            refine L.ixS k Tryz.underlying9 rfl rfl rfl hlt rfl ?_
            refine L.on rfl rfl ?_
            refine L.cmp rfl rfl rfl rfl ?_
            refine L.pkT rfl rfl rfl ?_
            refine L.nil ?_
            refine T.cond rfl (fun h46 => ?_) (fun h46 => ?_)
            · skip
              have n91 : ¬ nextB s k = 91 := by rw [hnb]; intro e; rw [e] at h46; exact absurd h46 (by decide)
              refine T.rg ?_
              refine L.mv rfl rfl ?_
              refine L.mv rfl rfl ?_
              have htl := tokLen_le stopB s k
              refine L.call e58 rfl rfl (f58 s k hk hs) ?_
              rintro _ _ ⟨rfl, rfl⟩
              refine L.mv rfl rfl ?_
              refine L.ex rfl rfl rfl ?_
              refine L.ex rfl rfl rfl ?_
              refine L.ex rfl rfl rfl ?_
              refine L.as rfl rfl ?_
              refine L.as rfl rfl ?_
              refine L.as rfl rfl ?_
              refine L.nil ?_
              refine T.of_seq ?_
              refine T.rg ?_
              refine L.mv rfl rfl ?_
              refine L.not rfl rfl ?_
              refine L.nil ?_
              refine T.cond rfl (fun h55 => ?_) (fun h55 => ?_)
              · skip
                have hn : ¬ nameB (tok stopB s k) = true := by simpa using h55
                refine T.rg ?_
                refine L.ldg 0 a126 s126 rfl rfl rfl rfl rfl ?_
                refine L.mv rfl rfl ?_
                refine L.stog 1 s126 rfl rfl rfl rfl rfl rfl ?_
                refine L.as rfl rfl ?_
                refine L.as rfl rfl ?_
                refine L.nil ?_
                refine T.ret ?_
                refine G.conv (drop_at (i := 0) rfl rfl) ?_
                exact G.retW (drop_at (i := 0) rfl rfl) (resCTT (i := 0) Tryz.results40 rfl a126 s126 rfl rfl rfl rfl) ⟨rfl, noPart, _, false, rfl, by simp, by simp [partS, n42, n46, n91, nameS, hn]⟩
              · skip
                have hn : nameB (tok stopB s k) = true := by simpa using h55
                refine T.skip ?_
                refine T.go (fun _ _ h => h) ?_
                refine T.rg ?_
                refine L.mv rfl rfl ?_
                refine L.fa Tryz.underlying126 rfl s9 rfl rfl ?_
                refine L.sto 0 s9 rfl rfl rfl rfl rfl ?_
                refine L.nil ?_
                refine T.rg ?_
                refine L.as rfl rfl ?_
                refine L.nil ?_
                refine T.region ?_
                refine L.mv rfl rfl ?_
                refine L.as rfl rfl ?_
                refine L.last ?_
                exact G.cut [(8, aB true), (7, aP b7 0), (4, aP b4 0), (1, aN (k + tokLen stopB s k : Nat)), (0, aS s)] ⟨s.size + 1, ⟨tok stopB s k, [], [], false⟩, k + tokLen stopB s k, s.size + 1, true, by omega, rfl, Nat.zero_le _, Nat.zero_le _, rfl, by omega, by simp [partS, n42, n46, n91, nameS, hn, noPart], rfl, rfl⟩ (by repeat constructor)
            · skip
              have n91 : nextB s k = 91 := by rw [hnb]; exact b8_eq (d := 91) (by simpa using h46)
              refine T.skip ?_
              exact G.cut [(8, aB false), (7, aP b7 0), (4, aP b4 0), (1, aN (k : Nat)), (0, aS s)] ⟨s.size + 1, noPart, k, s.size + 1, false, hk, rfl, Nat.zero_le _, Nat.zero_le _, rfl, by omega, by simp [partS, n91], rfl, rfl⟩ (by repeat constructor)
          · skip
            have n46 : nextB s k = 46 := by rw [hnb]; exact b8_eq (d := 46) (by simpa using h41)
            refine L.off rfl rfl rfl rfl ?_
            refine L.off rfl rfl rfl rfl ?_
            refine L.off rfl rfl rfl rfl ?_
            refine L.off rfl rfl rfl rfl ?_
            refine L.pkF rfl rfl rfl ?_
            refine L.nil ?_
            refine T.condF rfl ?_
            refine T.skip ?_
            exact G.cut [(8, aB false), (7, aP b7 0), (4, aP b4 0), (1, aN (k : Nat)), (0, aS s)] ⟨s.size + 1, noPart, k, s.size + 1, false, hk, rfl, Nat.zero_le _, Nat.zero_le _, rfl, by omega, by simp [partS, n46], rfl, rfl⟩ (by repeat constructor)
        · skip
          exfalso
          simp at h35
          omega
    · skip
      have hge : s.size ≤ k := by simpa using h22
      refine L.off rfl rfl rfl rfl ?_
      refine L.off rfl rfl rfl rfl ?_
      refine L.off rfl rfl rfl rfl ?_
      refine L.off rfl rfl rfl rfl ?_
      refine L.pkF rfl rfl rfl ?_
      refine L.nil ?_
      refine T.condF rfl ?_
      refine T.rg ?_
      refine L.mv rfl rfl ?_
      refine L.mv rfl rfl ?_
      refine L.lenS Tryz.underlying9 rfl rfl ?_
      refine L.cmp rfl rfl rfl rfl ?_
      refine L.mv rfl rfl ?_
      refine L.caseB 35 rfl (fun h35 => ?_) (fun h35 => ?_)
      · skip
        exfalso
        simp at h35
        omega
      · skip
        refine L.off rfl rfl rfl rfl ?_
        refine L.off rfl rfl rfl rfl ?_
        refine L.off rfl rfl rfl rfl ?_
        refine L.off rfl rfl rfl rfl ?_
        refine L.pkF rfl rfl rfl ?_
        refine L.mv rfl rfl ?_
        refine L.off rfl rfl rfl rfl ?_
        refine L.off rfl rfl rfl rfl ?_
        refine L.off rfl rfl rfl rfl ?_
        refine L.off rfl rfl rfl rfl ?_
        refine L.pkF rfl rfl rfl ?_
        refine L.nil ?_
        refine T.condF rfl ?_
        refine T.skip ?_
        exact G.cut [(8, aB false), (7, aP b7 0), (4, aP b4 0), (1, aN (k : Nat)), (0, aS s)] ⟨s.size + 1, noPart, k, s.size + 1, false, hk, rfl, Nat.zero_le _, Nat.zero_le _, rfl, by omega, by rw [partS_zero (nextB_out hge) hk]; simp [nextB_out hge], rfl, rfl⟩ (by repeat constructor)
end Go.Proofs.YtimimkdgofiloaaGreat
