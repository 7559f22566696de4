/- The statements' functions. Printed by gen.py. -/
import Derived.Test.YtlibfaghiogekaaS21
import Derived.Test.YtlibfaghiogekaaDk
namespace Go.Proofs.Ytlibfaghiogekaa
open Go Go.Q
theorem partsS_len {s : ByteArray} : ∀ (f a : Nat) (child : Bool) (acc l : List SPart), a ≤ s.size → acc.length ≤ a → partsS s f a child acc = some l → l.length ≤ s.size + 1
  | 0, _, _, _, _, _, _, h => by simp [partsS] at h
  | f + 1, a, child, acc, l, ha, hl, h => by
    simp only [partsS] at h
    split at h
    · cases h
    · rename_i p b hp
      have hlt := partS_lt ha hp
      have hb1 := blanksN_le (s := s) (a := b) hlt.2
      have hb0 := blanksN_ge s b
      split at h
      · simp only [Option.some.injEq] at h
        rw [← h, List.length_append]; simp; omega
      · split at h
        · rename_i hne h62
          have hb2 := blanksN_le (s := s) (a := blanksN s b + 1) (by omega)
          have hb3 := blanksN_ge s (blanksN s b + 1)
          exact partsS_len f _ _ _ _ hb2 (by rw [List.length_append]; simp; omega) h
        · split at h
          · cases h
          · exact partsS_len f _ _ _ _ hb1 (by rw [List.length_append]; simp; omega) h
theorem readS_len {s : ByteArray} {l : List SPart} (h : readS s = some l) : l.length ≤ s.size + 1 :=
  partsS_len _ _ _ _ _ (blanksN_le (Nat.zero_le _)) (Nat.zero_le _) h
theorem ext_size (s : ByteArray) (n : Nat) : (s.extract 0 n).size ≤ n := by rw [ByteArray.size_extract]; omega
set_option maxHeartbeats 4000000 in
theorem f3 (l : List FlatV) (s : ByteArray) : Fc Try.prog 3 [L_ 14 (flats l), S_ s] [] (Just (aB true)) := by
  have hxs := ext_size s 60
  refine Fc.enter Try.func3 rfl Try.ntmps3 rfl fun X w => ?_
  refine T.rg ?_
  refine L.as rfl rfl ?_
  refine L.nil ?_
  refine T.of_seq ?_
  refine T.rg ?_
  refine L.call e5 rfl rfl f5 ?_
  rintro _ _ ⟨rfl, rfl⟩
  refine L.not rfl rfl ?_
  refine L.nil ?_
  refine T.condF rfl ?_
  refine T.skip ?_
  refine T.go (fun _ _ h => h) ?_
  refine T.rg ?_
  refine L.mv rfl rfl ?_
  refine L.call e7 rfl rfl (f7 l 12 (by decide) (by decide)) ?_
  rintro _ _ ⟨rfl, nd, rfl, hnd, hfew⟩
  refine L.call e6 rfl rfl (f6 nd.size nd (Nat.le_refl _) (by omega) hfew 1 (by decide) (by omega)) ?_
  rintro _ _ ⟨rfl, t, rfl, hok, hts, hsm⟩
  refine L.mv rfl rfl ?_
  refine L.ex rfl rfl rfl ?_
  refine L.ex rfl rfl rfl ?_
  refine L.alloc z31 rfl rfl fun b5 => ?_
  refine L.stog 0 s31 rfl rfl rfl rfl (by rw [Tr.cs_d, List.length_map, Tr.d_len]; rfl) rfl ?_
  refine L.as rfl rfl ?_
  refine L.nil ?_
  refine T.rg ?_
  refine L.mv rfl rfl ?_
  refine L.call e8 rfl rfl (f8 s 60 (by omega)) ?_
  rintro _ _ ⟨rfl, rfl⟩
  refine L.as rfl rfl ?_
  refine L.nil ?_
  refine T.rg ?_
  refine L.mv rfl rfl ?_
  refine L.call e9 rfl rfl (f9 (s.extract 0 60) (by omega)) ?_
  rintro _ _ ⟨rfl, ps, pl, e, rfl, hm⟩
  refine L.mv rfl rfl ?_
  refine L.ex rfl rfl rfl ?_
  refine L.ex rfl rfl rfl ?_
  refine L.ex rfl rfl rfl ?_
  refine L.as rfl rfl ?_
  refine L.as rfl rfl ?_
  refine L.as rfl rfl ?_
  refine L.nil ?_
  refine T.rg ?_
  refine L.mv rfl rfl ?_
  refine L.call e10 rfl rfl (f10 (s.extract 0 60) (by omega)) ?_
  rintro _ _ ⟨rfl, ps2, pl2, e2, rfl, hm2⟩
  have hps : ps2 = ps ∧ e2 = e ∧ ps.length ≤ 500 := by
    cases hr : readS (s.extract 0 60) with
    | none => rw [hr] at hm hm2; obtain ⟨rfl, rfl, _⟩ := hm; obtain ⟨rfl, rfl⟩ := hm2; exact ⟨rfl, rfl, by decide⟩
    | some l => have hl := readS_len hr; rw [hr] at hm hm2; obtain ⟨rfl, rfl, _⟩ := hm; obtain ⟨rfl, rfl⟩ := hm2; exact ⟨rfl, rfl, by omega⟩
  obtain ⟨rfl, rfl, hpl⟩ := hps
  refine L.mv rfl rfl ?_
  refine L.ex rfl rfl rfl ?_
  refine L.ex rfl rfl rfl ?_
  refine L.ex rfl rfl rfl ?_
  refine L.as rfl rfl ?_
  refine L.as rfl rfl ?_
  refine L.as rfl rfl ?_
  refine L.nil ?_
  refine T.of_seq ?_
  refine T.rg ?_
  refine L.mv rfl rfl ?_
  refine L.mv rfl rfl ?_
  refine L.cmp rfl rfl rfl rfl ?_
  refine L.setB (t := 37) (b' := false) rfl (by simp) ?_
  refine L.nil ?_
  refine T.condF rfl ?_
  refine T.skip ?_
  refine T.go (fun _ _ h => h) ?_
  refine T.of_seq ?_
  refine T.drawC 8 [(5, aP b5 0), (7, aL 4 (sel ps2)), (10, aL 4 (sel ps2))] [.blk b5 31 t.cs] (fun _ => []) [] (fun n x _ post => match n with
    | 0 => x = .v (.g (t.cs)) ∧ post = []
    | 1 => x = aL 4 (sel ps2) ∧ post = []
    | 2 => x = aL 1 (ints (allM ps2 t)) ∧ post = []
    | 3 => x = .v (.g (t.cs)) ∧ post = []
    | 4 => x = .v (.g t.cs) ∧ post = []
    | 5 => x = aL 8 [t.d] ∧ post = []
    | 6 => x = aL 4 (sel ps2) ∧ post = []
    | 7 => x = aL 1 (ints (allV ps2 t [])) ∧ post = []
    | _ => False) hmixed rfl rfl rfl (by repeat constructor) (List.Perm.refl _) rfl ⟨?_, ?_, ?_, ?_, ?_, ?_, ?_, ?_, trivial⟩ ?_
  · intro X posts σ' Ωf hsb hA
    refine L.ldg (ys := t.cs) 0 a31 s31 (hsb.get rfl) rfl (by rw [List.drop_zero]; exact List.take_of_length_le (by rw [Tr.cs_d, List.length_map, Tr.d_len]; exact Nat.le_refl _)) (by rw [Tr.cs_d, List.length_map, Tr.d_len]) rfl ?_
    exact L.last (G.fin [] ⟨rfl, rfl⟩ rfl)
  · intro X posts σ' Ωf hsb hA
    refine L.mv (hsb.get rfl) rfl ?_
    exact L.last (G.fin [] ⟨rfl, rfl⟩ rfl)
  · intro X posts σ' Ωf hsb hA
    have hx0 := (hA 0 rfl).2.1
    have l38 : σ'.lookup 38 = some (.v (.g (t.cs))) := (hA 0 rfl).1.trans (congrArg some hx0)
    have hx1 := (hA 1 rfl).2.1
    have l39 : σ'.lookup 39 = some (aL 4 (sel ps2)) := (hA 1 rfl).1.trans (congrArg some hx1)
    refine L.call e12 (evs2t l38 l39) rfl (f12 ps2 hpl t hok (by omega)) ?_
    rintro _ _ ⟨rfl, rfl⟩
    exact L.last (G.fin [] ⟨rfl, rfl⟩ rfl)
  · intro X posts σ' Ωf hsb hA
    refine L.ldg (ys := t.cs) 0 a31 s31 (hsb.get rfl) rfl (by rw [List.drop_zero]; exact List.take_of_length_le (by rw [Tr.cs_d, List.length_map, Tr.d_len]; exact Nat.le_refl _)) (by rw [Tr.cs_d, List.length_map, Tr.d_len]) rfl ?_
    exact L.last (G.fin [] ⟨rfl, rfl⟩ rfl)
  · intro X posts σ' Ωf hsb hA
    have hx3 := (hA 3 rfl).2.1
    have l41 : σ'.lookup 41 = some (.v (.g (t.cs))) := (hA 3 rfl).1.trans (congrArg some hx3)
    refine L.call e14 (evs1t l41) rfl (f14 t.size t (Nat.le_refl _) (by omega) hsm) ?_
    rintro _ _ ⟨rfl, rfl⟩
    exact L.last (G.fin [] ⟨rfl, rfl⟩ rfl)
  · intro X posts σ' Ωf hsb hA
    have hx4 := (hA 4 rfl).2.1
    have l42 : σ'.lookup 42 = some (.v (.g t.cs)) := (hA 4 rfl).1.trans (congrArg some hx4)
    refine L.bsD rfl Try.underlying55 i57 rfl rfl (evp1 l42) (elsC_d _) rfl ?_
    exact L.last (G.fin [] ⟨rfl, rfl⟩ rfl)
  · intro X posts σ' Ωf hsb hA
    refine L.mv (hsb.get rfl) rfl ?_
    exact L.last (G.fin [] ⟨rfl, rfl⟩ rfl)
  · intro X posts σ' Ωf hsb hA
    have hx5 := (hA 5 rfl).2.1
    have l43 : σ'.lookup 43 = some (aL 8 [t.d]) := (hA 5 rfl).1.trans (congrArg some hx5)
    have hx6 := (hA 6 rfl).2.1
    have l44 : σ'.lookup 44 = some (aL 4 (sel ps2)) := (hA 6 rfl).1.trans (congrArg some hx6)
    refine L.call e13 (evs2t l43 l44) rfl (f13 ps2 hpl t.size t (Nat.le_refl _) [] (by simp; omega) trivial hok) ?_
    rintro _ _ ⟨rfl, rfl⟩
    exact L.last (G.fin [] ⟨rfl, rfl⟩ rfl)
  intro X posts hR
  obtain ⟨hx0, hp0⟩ : X 0 = .v (.g (t.cs)) ∧ posts 0 = [] := hR 0 rfl
  obtain ⟨hx1, hp1⟩ : X 1 = aL 4 (sel ps2) ∧ posts 1 = [] := hR 1 rfl
  obtain ⟨hx2, hp2⟩ : X 2 = aL 1 (ints (allM ps2 t)) ∧ posts 2 = [] := hR 2 rfl
  obtain ⟨hx3, hp3⟩ : X 3 = .v (.g (t.cs)) ∧ posts 3 = [] := hR 3 rfl
  obtain ⟨hx4, hp4⟩ : X 4 = .v (.g t.cs) ∧ posts 4 = [] := hR 4 rfl
  obtain ⟨hx5, hp5⟩ : X 5 = aL 8 [t.d] ∧ posts 5 = [] := hR 5 rfl
  obtain ⟨hx6, hp6⟩ : X 6 = aL 4 (sel ps2) ∧ posts 6 = [] := hR 6 rfl
  obtain ⟨hx7, hp7⟩ : X 7 = aL 1 (ints (allV ps2 t [])) ∧ posts 7 = [] := hR 7 rfl
  have hpp : (List.range 8).flatMap (leftC 8 (fun i => ([] : List (Option Nat)).getD i none) posts) = [] := by
    show posts 0 ++ (posts 1 ++ (posts 2 ++ (posts 3 ++ (posts 4 ++ (posts 5 ++ (posts 6 ++ (posts 7 ++ []))))))) = _
    simp only [hp0, hp1, hp2, hp3, hp4, hp5, hp6, hp7, List.nil_append, List.append_nil]
  rw [hpp]
  refine L.sub (σ' := [(40, aL 1 (ints (allM ps2 t))), (45, aL 1 (ints (allV ps2 t []))), (5, aP b5 0), (7, aL 4 (sel ps2)), (10, aL 4 (sel ps2))]) ⟨congrArg some hx2, congrArg some hx7, rfl, rfl, rfl, trivial⟩ ?_
  refine L.call e11 rfl rfl (f11 _ _) ?_
  rintro _ _ ⟨rfl, rfl⟩
  rw [allM_eq, decide_eq_true rfl]
  refine L.as rfl rfl ?_
  refine L.last ?_
  refine T.go (fun _ _ h => h) ?_
  refine T.ret ?_
  refine G.conv (drop_at (i := 0) rfl rfl) ?_
  exact G.ret (res1 Try.results3 rfl) ⟨rfl, rfl⟩

theorem join_below {A : List SPart} {p : SPart} : ∀ w, fitsV (A ++ [{ p with child := true }]).reverse w = true → fitsV (A ++ [{ p with child := false }]).reverse w = true := by
  intro w h
  rw [List.reverse_append] at h ⊢
  exact fitsV_below h
theorem join_last {A : List SPart} {p : SPart} : ∀ w, fitsV (A ++ [{ p with child := false }]).reverse w = true → fitsV [p].reverse w = true := by
  intro w h
  rw [List.reverse_append] at h
  exact fitsV_last h p.child

set_option maxHeartbeats 4000000 in
theorem f4 (l : List FlatV) (s more : ByteArray) : Fc Try.prog 4 [L_ 14 (flats l), S_ s, S_ more] [] (Just (aB true)) := by
  have hxs := ext_size s 60
  have hys := ext_size more 30
  refine Fc.enter Try.func4 rfl Try.ntmps4 rfl fun X w => ?_
  refine T.rg ?_
  refine L.as rfl rfl ?_
  refine L.nil ?_
  refine T.of_seq ?_
  refine T.rg ?_
  refine L.call e5 rfl rfl f5 ?_
  rintro _ _ ⟨rfl, rfl⟩
  refine L.not rfl rfl ?_
  refine L.nil ?_
  refine T.condF rfl ?_
  refine T.skip ?_
  refine T.go (fun _ _ h => h) ?_
  refine T.rg ?_
  refine L.mv rfl rfl ?_
  refine L.call e7 rfl rfl (f7 l 20 (by decide) (by decide)) ?_
  rintro _ _ ⟨rfl, nd, rfl, hnd, hfew⟩
  refine L.call e6 rfl rfl (f6 nd.size nd (Nat.le_refl _) (by omega) hfew 1 (by decide) (by omega)) ?_
  rintro _ _ ⟨rfl, t, rfl, hok, hts, hsm⟩
  refine L.mv rfl rfl ?_
  refine L.ex rfl rfl rfl ?_
  refine L.ex rfl rfl rfl ?_
  refine L.alloc z31 rfl rfl fun b7 => ?_
  refine L.stog 0 s31 rfl rfl rfl rfl (by rw [Tr.cs_d, List.length_map, Tr.d_len]; rfl) rfl ?_
  refine L.as rfl rfl ?_
  refine L.nil ?_
  refine T.rg ?_
  refine L.mv rfl rfl ?_
  refine L.call e8 rfl rfl (f8 s 60 (by omega)) ?_
  rintro _ _ ⟨rfl, rfl⟩
  refine L.mv rfl rfl ?_
  refine L.call e8 rfl rfl (f8 more 30 (by omega)) ?_
  rintro _ _ ⟨rfl, rfl⟩
  refine L.as rfl rfl ?_
  refine L.as rfl rfl ?_
  refine L.nil ?_
  refine T.rg ?_
  refine L.mv rfl rfl ?_
  refine L.call e9 rfl rfl (f9 (s.extract 0 60) (by omega)) ?_
  rintro _ _ ⟨rfl, l1, pl1, e1, rfl, hm1⟩
  have hlb1 : l1.length ≤ 500 := by
    cases hr : readS (s.extract 0 60) with
    | none => rw [hr] at hm1; obtain ⟨_, rfl, _⟩ := hm1; exact Nat.zero_le _
    | some ps => have hl := readS_len hr; rw [hr] at hm1; obtain ⟨_, rfl, _⟩ := hm1; omega
  refine L.mv rfl rfl ?_
  refine L.ex rfl rfl rfl ?_
  refine L.ex rfl rfl rfl ?_
  refine L.ex rfl rfl rfl ?_
  refine L.as rfl rfl ?_
  refine L.as rfl rfl ?_
  refine L.as rfl rfl ?_
  refine L.nil ?_
  refine T.rg ?_
  refine L.mv rfl rfl ?_
  refine L.call e9 rfl rfl (f9 (more.extract 0 30) (by omega)) ?_
  rintro _ _ ⟨rfl, l2, pl2, e2, rfl, hm2⟩
  have hlb2 : l2.length ≤ 500 := by
    cases hr : readS (more.extract 0 30) with
    | none => rw [hr] at hm2; obtain ⟨_, rfl, _⟩ := hm2; exact Nat.zero_le _
    | some ps => have hl := readS_len hr; rw [hr] at hm2; obtain ⟨_, rfl, _⟩ := hm2; omega
  refine L.mv rfl rfl ?_
  refine L.ex rfl rfl rfl ?_
  refine L.ex rfl rfl rfl ?_
  refine L.ex rfl rfl rfl ?_
  refine L.as rfl rfl ?_
  refine L.as rfl rfl ?_
  refine L.as rfl rfl ?_
  refine L.nil ?_
  refine T.of_seq ?_
  refine T.rg ?_
  refine L.mv rfl rfl ?_
  refine L.cmp rfl rfl rfl rfl ?_
  refine L.mv rfl rfl ?_
  refine L.caseB 50 rfl (fun h50 => ?_) (fun h50 => ?_)
  · skip
    refine L.off rfl rfl rfl rfl ?_
    refine L.off rfl rfl rfl rfl ?_
    refine L.pkT rfl rfl rfl ?_
    refine L.mv rfl rfl ?_
    refine L.off rfl rfl rfl rfl ?_
    refine L.off rfl rfl rfl rfl ?_
    refine L.off rfl rfl rfl rfl ?_
    refine L.pkT rfl rfl rfl ?_
    refine L.mv rfl rfl ?_
    refine L.off rfl rfl rfl rfl ?_
    refine L.off rfl rfl rfl rfl ?_
    refine L.off rfl rfl rfl rfl ?_
    refine L.pkT rfl rfl rfl ?_
    refine L.nil ?_
    refine T.condT rfl ?_
    refine T.rg ?_
    refine L.ldg (ys := t.cs) 0 a31 s31 rfl rfl (by rw [List.drop_zero]; exact List.take_of_length_le (by rw [Tr.cs_d, List.length_map, Tr.d_len]; exact Nat.le_refl _)) (by rw [Tr.cs_d, List.length_map, Tr.d_len]) rfl ?_
    refine L.mv rfl rfl ?_
    refine L.call e12 rfl rfl (f12 l1 hlb1 t hok (by omega)) ?_
    rintro _ _ ⟨rfl, rfl⟩
    refine L.lenL Try.underlying52 rfl rfl fun hl67 => ?_
    refine L.cmp rfl rfl rfl rfl ?_
    refine L.setB (t := 68) (b' := true) rfl (decide_eq_true (Int.natCast_nonneg _)) ?_
    refine L.as rfl rfl ?_
    refine L.nil ?_
    refine T.ret ?_
    refine G.conv (drop_at (i := 0) rfl rfl) ?_
    exact G.ret (res1 Try.results4 rfl) ⟨rfl, rfl⟩
  · skip
    have hr1 : readS (s.extract 0 60) = some l1 := by
      cases hr : readS (s.extract 0 60) with
      | none => rw [hr] at hm1; obtain ⟨rfl, _⟩ := hm1; exact absurd h50 (by decide)
      | some ps => rw [hr] at hm1; obtain ⟨_, rfl, _⟩ := hm1; rfl
    refine L.on rfl rfl ?_
    refine L.mv rfl rfl ?_
    refine L.on rfl rfl ?_
    refine L.cmp rfl rfl rfl rfl ?_
    refine L.pkF rfl rfl rfl ?_
    refine L.mv rfl rfl ?_
    refine L.caseB 54 rfl (fun h54 => ?_) (fun h54 => ?_)
    · skip
      refine L.off rfl rfl rfl rfl ?_
      refine L.off rfl rfl rfl rfl ?_
      refine L.off rfl rfl rfl rfl ?_
      refine L.pkT rfl rfl rfl ?_
      refine L.mv rfl rfl ?_
      refine L.off rfl rfl rfl rfl ?_
      refine L.off rfl rfl rfl rfl ?_
      refine L.off rfl rfl rfl rfl ?_
      refine L.pkT rfl rfl rfl ?_
      refine L.nil ?_
      refine T.condT rfl ?_
      refine T.rg ?_
      refine L.ldg (ys := t.cs) 0 a31 s31 rfl rfl (by rw [List.drop_zero]; exact List.take_of_length_le (by rw [Tr.cs_d, List.length_map, Tr.d_len]; exact Nat.le_refl _)) (by rw [Tr.cs_d, List.length_map, Tr.d_len]) rfl ?_
      refine L.mv rfl rfl ?_
      refine L.call e12 rfl rfl (f12 l1 hlb1 t hok (by omega)) ?_
      rintro _ _ ⟨rfl, rfl⟩
      refine L.lenL Try.underlying52 rfl rfl fun hl67 => ?_
      refine L.cmp rfl rfl rfl rfl ?_
      refine L.setB (t := 68) (b' := true) rfl (decide_eq_true (Int.natCast_nonneg _)) ?_
      refine L.as rfl rfl ?_
      refine L.nil ?_
      refine T.ret ?_
      refine G.conv (drop_at (i := 0) rfl rfl) ?_
      exact G.ret (res1 Try.results4 rfl) ⟨rfl, rfl⟩
    · skip
      have hr2 : readS (more.extract 0 30) = some l2 := by
        cases hr : readS (more.extract 0 30) with
        | none => rw [hr] at hm2; obtain ⟨rfl, _⟩ := hm2; exact absurd h54 (by decide)
        | some ps => rw [hr] at hm2; obtain ⟨_, rfl, _⟩ := hm2; rfl
      refine L.on rfl rfl ?_
      refine L.mv rfl rfl ?_
      refine L.on rfl rfl ?_
      refine L.lenL Try.underlying44 rfl rfl fun hl56 => ?_
      rw [sel_len] at hl56 ⊢
      refine L.on rfl rfl ?_
      refine L.cmp rfl rfl rfl rfl ?_
      refine L.pkF rfl rfl rfl ?_
      refine L.mv rfl rfl ?_
      refine L.caseB 59 rfl (fun h59 => ?_) (fun h59 => ?_)
      · skip
        refine L.off rfl rfl rfl rfl ?_
        refine L.off rfl rfl rfl rfl ?_
        refine L.off rfl rfl rfl rfl ?_
        refine L.pkT rfl rfl rfl ?_
        refine L.nil ?_
        refine T.condT rfl ?_
        refine T.rg ?_
        refine L.ldg (ys := t.cs) 0 a31 s31 rfl rfl (by rw [List.drop_zero]; exact List.take_of_length_le (by rw [Tr.cs_d, List.length_map, Tr.d_len]; exact Nat.le_refl _)) (by rw [Tr.cs_d, List.length_map, Tr.d_len]) rfl ?_
        refine L.mv rfl rfl ?_
        refine L.call e12 rfl rfl (f12 l1 hlb1 t hok (by omega)) ?_
        rintro _ _ ⟨rfl, rfl⟩
        refine L.lenL Try.underlying52 rfl rfl fun hl67 => ?_
        refine L.cmp rfl rfl rfl rfl ?_
        refine L.setB (t := 68) (b' := true) rfl (decide_eq_true (Int.natCast_nonneg _)) ?_
        refine L.as rfl rfl ?_
        refine L.nil ?_
        refine T.ret ?_
        refine G.conv (drop_at (i := 0) rfl rfl) ?_
        exact G.ret (res1 Try.results4 rfl) ⟨rfl, rfl⟩
      · skip
        refine L.on rfl rfl ?_
        refine L.mv rfl rfl ?_
        refine L.on rfl rfl ?_
        refine L.lenL Try.underlying44 rfl rfl fun hl61 => ?_
        rw [sel_len] at hl61 ⊢
        refine L.on rfl rfl ?_
        refine L.cmp rfl rfl rfl rfl ?_
        refine L.pkF rfl rfl rfl ?_
        refine L.nil ?_
        refine T.cond rfl (fun h63 => ?_) (fun h63 => ?_)
        · skip
          refine T.rg ?_
          refine L.ldg (ys := t.cs) 0 a31 s31 rfl rfl (by rw [List.drop_zero]; exact List.take_of_length_le (by rw [Tr.cs_d, List.length_map, Tr.d_len]; exact Nat.le_refl _)) (by rw [Tr.cs_d, List.length_map, Tr.d_len]) rfl ?_
          refine L.mv rfl rfl ?_
          refine L.call e12 rfl rfl (f12 l1 hlb1 t hok (by omega)) ?_
          rintro _ _ ⟨rfl, rfl⟩
          refine L.lenL Try.underlying52 rfl rfl fun hl67 => ?_
          refine L.cmp rfl rfl rfl rfl ?_
          refine L.setB (t := 68) (b' := true) rfl (decide_eq_true (Int.natCast_nonneg _)) ?_
          refine L.as rfl rfl ?_
          refine L.nil ?_
          refine T.ret ?_
          refine G.conv (drop_at (i := 0) rfl rfl) ?_
          exact G.ret (res1 Try.results4 rfl) ⟨rfl, rfl⟩
        · skip
          obtain ⟨p, rfl⟩ : ∃ p, l2 = [p] := by
            have h1 : (l2.length : Int) = 1 := by simpa using h63
            exact List.length_eq_one_iff.1 (by omega)
          refine T.skip ?_
          refine T.go (fun _ _ h => h) ?_
          refine T.rg ?_
          refine L.mv rfl rfl ?_
          refine L.addS rfl rfl (by have h1 : gtB.size = 3 := rfl; show _ + gtB.size ≤ _; omega) rfl ?_
          refine L.mv rfl rfl ?_
          refine L.addS rfl rfl (by rw [ByteArray.size_append]; have h1 : gtB.size = 3 := rfl; show _ + gtB.size + _ ≤ _; omega) rfl ?_
          refine L.call e9 rfl rfl (f9 ((s.extract 0 60) ++ gtB ++ (more.extract 0 30)) (by simp only [ByteArray.size_append]; have h1 : gtB.size = 3 := rfl; omega)) ?_
          rintro _ _ ⟨rfl, l3, pl3, e3, rfl, hm3⟩
          have hlb3 : l3.length ≤ 500 := by
            rw [read_join (s.extract 0 60) (more.extract 0 30) gtB l1 p true hr1 hr2 (.inl ⟨rfl, rfl⟩)] at hm3
            obtain ⟨_, rfl, _⟩ := hm3
            have hl1 := readS_len hr1
            rw [List.length_append]; simp; omega
          rw [read_join (s.extract 0 60) (more.extract 0 30) gtB l1 p true hr1 hr2 (.inl ⟨rfl, rfl⟩)] at hm3
          obtain ⟨rfl, rfl, rfl⟩ := hm3
          refine L.mv rfl rfl ?_
          refine L.ex rfl rfl rfl ?_
          refine L.ex rfl rfl rfl ?_
          refine L.ex rfl rfl rfl ?_
          refine L.as rfl rfl ?_
          refine L.as rfl rfl ?_
          refine L.as rfl rfl ?_
          refine L.nil ?_
          refine T.rg ?_
          refine L.mv rfl rfl ?_
          refine L.addS rfl rfl (by have h1 : spB.size = 1 := rfl; show _ + spB.size ≤ _; omega) rfl ?_
          refine L.mv rfl rfl ?_
          refine L.addS rfl rfl (by rw [ByteArray.size_append]; have h1 : spB.size = 1 := rfl; show _ + spB.size + _ ≤ _; omega) rfl ?_
          refine L.call e9 rfl rfl (f9 ((s.extract 0 60) ++ spB ++ (more.extract 0 30)) (by simp only [ByteArray.size_append]; have h1 : spB.size = 1 := rfl; omega)) ?_
          rintro _ _ ⟨rfl, l4, pl4, e4, rfl, hm4⟩
          have hlb4 : l4.length ≤ 500 := by
            rw [read_join (s.extract 0 60) (more.extract 0 30) spB l1 p false hr1 hr2 (.inr ⟨rfl, rfl⟩)] at hm4
            obtain ⟨_, rfl, _⟩ := hm4
            have hl1 := readS_len hr1
            rw [List.length_append]; simp; omega
          rw [read_join (s.extract 0 60) (more.extract 0 30) spB l1 p false hr1 hr2 (.inr ⟨rfl, rfl⟩)] at hm4
          obtain ⟨rfl, rfl, rfl⟩ := hm4
          refine L.mv rfl rfl ?_
          refine L.ex rfl rfl rfl ?_
          refine L.ex rfl rfl rfl ?_
          refine L.ex rfl rfl rfl ?_
          refine L.as rfl rfl ?_
          refine L.as rfl rfl ?_
          refine L.as rfl rfl ?_
          refine L.nil ?_
          refine T.of_seq ?_
          refine T.rg ?_
          refine L.mv rfl rfl ?_
          refine L.cmp rfl rfl rfl rfl ?_
          refine L.setB (t := 88) (b' := false) rfl (by decide) ?_
          refine L.mv rfl rfl ?_
          refine L.on rfl rfl ?_
          refine L.mv rfl rfl ?_
          refine L.on rfl rfl ?_
          refine L.cmp rfl rfl rfl rfl ?_
          refine L.setB (t := 91) (b' := false) rfl (by decide) ?_
          refine L.pkF rfl rfl rfl ?_
          refine L.nil ?_
          refine T.condF rfl ?_
          refine T.skip ?_
          refine T.go (fun _ _ h => h) ?_
          refine T.of_seq ?_
          refine T.drawC 9 [(7, aP b7 0), (15, aL 4 (sel (l1 ++ [{ p with child := true }]))), (18, aL 4 (sel (l1 ++ [{ p with child := false }]))), (12, aL 4 (sel [p]))] [.blk b7 31 t.cs] (fun _ => []) [] (fun n x _ post => match n with
            | 0 => x = .v (.g (t.cs)) ∧ post = []
            | 1 => x = aL 4 (sel (l1 ++ [{ p with child := true }])) ∧ post = []
            | 2 => x = aL 1 (ints (allM (l1 ++ [{ p with child := true }]) t)) ∧ post = []
            | 3 => x = .v (.g (t.cs)) ∧ post = []
            | 4 => x = aL 4 (sel (l1 ++ [{ p with child := false }])) ∧ post = []
            | 5 => x = aL 1 (ints (allM (l1 ++ [{ p with child := false }]) t)) ∧ post = []
            | 6 => x = .v (.g (t.cs)) ∧ post = []
            | 7 => x = aL 4 (sel [p]) ∧ post = []
            | 8 => x = aL 1 (ints (allM [p] t)) ∧ post = []
            | _ => False) hmixed rfl rfl rfl (by repeat constructor) (List.Perm.refl _) rfl ⟨?_, ?_, ?_, ?_, ?_, ?_, ?_, ?_, ?_, trivial⟩ ?_
          · intro X posts σ' Ωf hsb hA
            refine L.ldg (ys := t.cs) 0 a31 s31 (hsb.get rfl) rfl (by rw [List.drop_zero]; exact List.take_of_length_le (by rw [Tr.cs_d, List.length_map, Tr.d_len]; exact Nat.le_refl _)) (by rw [Tr.cs_d, List.length_map, Tr.d_len]) rfl ?_
            exact L.last (G.fin [] ⟨rfl, rfl⟩ rfl)
          · intro X posts σ' Ωf hsb hA
            refine L.mv (hsb.get rfl) rfl ?_
            exact L.last (G.fin [] ⟨rfl, rfl⟩ rfl)
          · intro X posts σ' Ωf hsb hA
            have hx0 := (hA 0 rfl).2.1
            have l93 : σ'.lookup 93 = some (.v (.g (t.cs))) := (hA 0 rfl).1.trans (congrArg some hx0)
            have hx1 := (hA 1 rfl).2.1
            have l94 : σ'.lookup 94 = some (aL 4 (sel (l1 ++ [{ p with child := true }]))) := (hA 1 rfl).1.trans (congrArg some hx1)
            refine L.call e12 (evs2t l93 l94) rfl (f12 (l1 ++ [{ p with child := true }]) hlb3 t hok (by omega)) ?_
            rintro _ _ ⟨rfl, rfl⟩
            exact L.last (G.fin [] ⟨rfl, rfl⟩ rfl)
          · intro X posts σ' Ωf hsb hA
            refine L.ldg (ys := t.cs) 0 a31 s31 (hsb.get rfl) rfl (by rw [List.drop_zero]; exact List.take_of_length_le (by rw [Tr.cs_d, List.length_map, Tr.d_len]; exact Nat.le_refl _)) (by rw [Tr.cs_d, List.length_map, Tr.d_len]) rfl ?_
            exact L.last (G.fin [] ⟨rfl, rfl⟩ rfl)
          · intro X posts σ' Ωf hsb hA
            refine L.mv (hsb.get rfl) rfl ?_
            exact L.last (G.fin [] ⟨rfl, rfl⟩ rfl)
          · intro X posts σ' Ωf hsb hA
            have hx3 := (hA 3 rfl).2.1
            have l96 : σ'.lookup 96 = some (.v (.g (t.cs))) := (hA 3 rfl).1.trans (congrArg some hx3)
            have hx4 := (hA 4 rfl).2.1
            have l97 : σ'.lookup 97 = some (aL 4 (sel (l1 ++ [{ p with child := false }]))) := (hA 4 rfl).1.trans (congrArg some hx4)
            refine L.call e12 (evs2t l96 l97) rfl (f12 (l1 ++ [{ p with child := false }]) hlb4 t hok (by omega)) ?_
            rintro _ _ ⟨rfl, rfl⟩
            exact L.last (G.fin [] ⟨rfl, rfl⟩ rfl)
          · intro X posts σ' Ωf hsb hA
            refine L.ldg (ys := t.cs) 0 a31 s31 (hsb.get rfl) rfl (by rw [List.drop_zero]; exact List.take_of_length_le (by rw [Tr.cs_d, List.length_map, Tr.d_len]; exact Nat.le_refl _)) (by rw [Tr.cs_d, List.length_map, Tr.d_len]) rfl ?_
            exact L.last (G.fin [] ⟨rfl, rfl⟩ rfl)
          · intro X posts σ' Ωf hsb hA
            refine L.mv (hsb.get rfl) rfl ?_
            exact L.last (G.fin [] ⟨rfl, rfl⟩ rfl)
          · intro X posts σ' Ωf hsb hA
            have hx6 := (hA 6 rfl).2.1
            have l99 : σ'.lookup 99 = some (.v (.g (t.cs))) := (hA 6 rfl).1.trans (congrArg some hx6)
            have hx7 := (hA 7 rfl).2.1
            have l100 : σ'.lookup 100 = some (aL 4 (sel [p])) := (hA 7 rfl).1.trans (congrArg some hx7)
            refine L.call e12 (evs2t l99 l100) rfl (f12 [p] (by simp) t hok (by omega)) ?_
            rintro _ _ ⟨rfl, rfl⟩
            exact L.last (G.fin [] ⟨rfl, rfl⟩ rfl)
          intro X posts hR
          obtain ⟨hx0, hp0⟩ : X 0 = .v (.g (t.cs)) ∧ posts 0 = [] := hR 0 rfl
          obtain ⟨hx1, hp1⟩ : X 1 = aL 4 (sel (l1 ++ [{ p with child := true }])) ∧ posts 1 = [] := hR 1 rfl
          obtain ⟨hx2, hp2⟩ : X 2 = aL 1 (ints (allM (l1 ++ [{ p with child := true }]) t)) ∧ posts 2 = [] := hR 2 rfl
          obtain ⟨hx3, hp3⟩ : X 3 = .v (.g (t.cs)) ∧ posts 3 = [] := hR 3 rfl
          obtain ⟨hx4, hp4⟩ : X 4 = aL 4 (sel (l1 ++ [{ p with child := false }])) ∧ posts 4 = [] := hR 4 rfl
          obtain ⟨hx5, hp5⟩ : X 5 = aL 1 (ints (allM (l1 ++ [{ p with child := false }]) t)) ∧ posts 5 = [] := hR 5 rfl
          obtain ⟨hx6, hp6⟩ : X 6 = .v (.g (t.cs)) ∧ posts 6 = [] := hR 6 rfl
          obtain ⟨hx7, hp7⟩ : X 7 = aL 4 (sel [p]) ∧ posts 7 = [] := hR 7 rfl
          obtain ⟨hx8, hp8⟩ : X 8 = aL 1 (ints (allM [p] t)) ∧ posts 8 = [] := hR 8 rfl
          have hpp : (List.range 9).flatMap (leftC 9 (fun i => ([] : List (Option Nat)).getD i none) posts) = [] := by
            show posts 0 ++ (posts 1 ++ (posts 2 ++ (posts 3 ++ (posts 4 ++ (posts 5 ++ (posts 6 ++ (posts 7 ++ (posts 8 ++ [])))))))) = _
            simp only [hp0, hp1, hp2, hp3, hp4, hp5, hp6, hp7, hp8, List.nil_append, List.append_nil]
          rw [hpp]
          refine L.sub (σ' := [(95, aL 1 (ints (allM (l1 ++ [{ p with child := true }]) t))), (98, aL 1 (ints (allM (l1 ++ [{ p with child := false }]) t))), (101, aL 1 (ints (allM [p] t))), (7, aP b7 0), (15, aL 4 (sel (l1 ++ [{ p with child := true }]))), (18, aL 4 (sel (l1 ++ [{ p with child := false }]))), (12, aL 4 (sel [p]))]) ⟨congrArg some hx2, congrArg some hx5, congrArg some hx8, rfl, rfl, rfl, rfl, trivial⟩ ?_
          refine L.as rfl rfl ?_
          refine L.as rfl rfl ?_
          refine L.as rfl rfl ?_
          refine L.last ?_
          refine T.go (fun _ _ h => h) ?_
          refine T.rg ?_
          refine L.mv rfl rfl ?_
          refine L.mv rfl rfl ?_
          refine L.call e15 rfl rfl (f15 _ _) ?_
          rintro _ _ ⟨rfl, rfl⟩
          refine L.setB (t := 104) (b' := true) rfl (all_within join_below t) ?_
          refine L.mv rfl rfl ?_
          refine L.on rfl rfl ?_
          refine L.mv rfl rfl ?_
          refine L.on rfl rfl ?_
          refine L.mv rfl rfl ?_
          refine L.on rfl rfl ?_
          refine L.call e15 rfl rfl (f15 _ _) ?_
          rintro _ _ ⟨rfl, rfl⟩
          refine L.setB (t := 108) (b' := true) rfl (all_within join_last t) ?_
          refine L.pkT rfl rfl rfl ?_
          refine L.as rfl rfl ?_
          refine L.nil ?_
          refine T.ret ?_
          refine G.conv (drop_at (i := 0) rfl rfl) ?_
          exact G.ret (res1 Try.results4 rfl) ⟨rfl, rfl⟩
end Go.Proofs.Ytlibfaghiogekaa
