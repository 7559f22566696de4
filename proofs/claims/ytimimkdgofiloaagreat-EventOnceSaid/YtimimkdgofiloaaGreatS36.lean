/- EventOnce. Printed by gen.py. -/
import Derived.Test.YtimimkdgofiloaaGreatS35
namespace Go.Proofs.YtimimkdgofiloaaGreat
open Go Go.Q
theorem _root_.Go.Q.G.setB {C : Ctx} {n : Nat} {K : Act → World → Prop} {σ : Env} {Ω : List Ob} {t : Nat} {b b' : Bool} (ht : σ.lookup t = some (aB b)) (hb : b = b') (h : G C n K ((t, aB b') :: σ) Ω) : G C n K σ Ω :=
  fun a w hs ha => h a w hs (ha.weak ht (by subst hb; exact fun _ h => h))
theorem cal_get {l : List (Int × Int)} {k : Nat} (h : k < l.length) : (calS l)[k]? = some [D.i .i64 l[k].1, D.i .i64 l[k].2] := by simp [calS, h]
theorem ext_size (s : ByteArray) (n : Nat) : (s.extract 0 n).size ≤ n := by rw [ByteArray.size_extract]; omega
theorem partsS_len {s : ByteArray} : ∀ (f a : Nat) (child : Bool) (acc l : List SPart), a ≤ s.size → acc.length ≤ a → partsS s f a child acc = some l → l.length ≤ s.size + 1
  | 0, _, _, _, _, _, _, h => by simp [partsS] at h
  | f + 1, a, child, acc, l, ha, hl, h => by
    simp only [partsS] at h
    split at h
    · cases h
    · rename_i p b hp
      have hlt := partS_lt ha hp
      have hb1 := blanksN_le (s := s) (a := b) hlt.2
      have hb0 := blanksN_ge s b
      split at h
      · simp only [Option.some.injEq] at h
        rw [← h, List.length_append]; simp; omega
      · split at h
        · rename_i hne h62
          have hb2 := blanksN_le (s := s) (a := blanksN s b + 1) (by omega)
          have hb3 := blanksN_ge s (blanksN s b + 1)
          exact partsS_len f _ _ _ _ hb2 (by rw [List.length_append]; simp; omega) h
        · split at h
          · cases h
          · exact partsS_len f _ _ _ _ hb1 (by rw [List.length_append]; simp; omega) h
theorem readS_len {s : ByteArray} {l : List SPart} (h : readS s = some l) : l.length ≤ s.size + 1 :=
  partsS_len _ _ _ _ _ (blanksN_le (Nat.zero_le _)) (Nat.zero_le _) h
theorem ears_small (es : List EarV) : (earsM es).length ≤ 6 ∧ ∀ e ∈ earsM es, e.1.length ≤ 500 := by
  refine ⟨earK_len es 6, fun e he => ?_⟩
  unfold earsM at he
  obtain ⟨a, _, ha⟩ := List.mem_filterMap.1 he
  obtain ⟨ps, hps, rfl⟩ := Option.map_eq_some_iff.1 ha
  have h1 := readS_len hps
  have h2 := ext_size a.1 24
  show ps.length ≤ 500; omega
theorem allM_len (ps : List SPart) (t : Tr) : (allM ps t).length ≤ t.size := downM_len ps t _ _
theorem cnt_take_yes {got : List (Int × Int)} {c k : Nat} {a : Int} (h : c < got.length) (h1 : (got[c].1 == (k : Int)) = true) (h2 : (got[c].2 == a) = true) : cntC (got.take (c + 1)) k a = cntC (got.take c) k a + 1 := by
  rw [take_snoc' got c h, cntC_snoc, h1, h2]; rfl
theorem cnt_take_no {got : List (Int × Int)} {c k : Nat} {a : Int} (h : c < got.length) (h1 : (got[c].1 == (k : Int) && got[c].2 == a) = false) : cntC (got.take (c + 1)) k a = cntC (got.take c) k a := by
  rw [take_snoc' got c h, cntC_snoc, h1]; rfl
theorem allF_getD {ls : List LisV} {t : Tr} {k : Nat} (h : k < ls.length) : (allF ls t).getD k [] = allM ls[k].1 t := by
  unfold allF; rw [List.getD_eq_getElem?_getD, List.getElem?_map, List.getElem?_eq_getElem h]; rfl
theorem cntC_le (got : List (Int × Int)) (i a : Int) : cntC got i a ≤ got.length := List.countP_le_length
set_option maxHeartbeats 8000000 in
theorem f3 (l : List FlatV) (es : List EarV) (xx : Int) : Fc Tryz.prog 3 [L_ 14 (flats l), L_ 3 (earS es), N_ xx] [] (Just (aB true)) := by
  refine Fc.enter Tryz.func3 rfl Tryz.ntmps3 rfl fun X w => ?_
  refine T.rg ?_
  refine L.as rfl rfl ?_
  refine L.nil ?_
  refine T.of_seq ?_
  refine T.rg ?_
  refine L.call e4 rfl rfl f4 ?_
  rintro _ _ ⟨rfl, rfl⟩
  refine L.not rfl rfl ?_
  refine L.nil ?_
  refine T.condF rfl ?_
  refine T.skip ?_
  refine T.go (fun _ _ h => h) ?_
  refine T.rg ?_
  refine L.mv rfl rfl ?_
  refine L.call e6 rfl rfl (f6 l 12 (by decide) (by decide)) ?_
  rintro _ _ ⟨rfl, nd, rfl, hnd, hfew⟩
  refine L.call e5 rfl rfl (f5 nd.size nd (Nat.le_refl _) (by omega) hfew 1 (by decide) (by omega)) ?_
  rintro _ _ ⟨rfl, t, rfl, hok, hts, hsm, hsq⟩
  refine L.mv rfl rfl ?_
  refine L.ex rfl rfl rfl ?_
  refine L.ex rfl rfl rfl ?_
  refine L.alloc z32 rfl rfl fun b7 => ?_
  refine L.stog 0 s32 rfl rfl rfl rfl (by rw [Tr.cs_d, List.length_map, Tr.d_len]; rfl) rfl ?_
  refine L.as rfl rfl ?_
  refine L.nil ?_
  refine T.rg ?_
  refine L.mv rfl rfl ?_
  refine L.call e7 rfl rfl (f7 es) ?_
  rintro _ _ ⟨rfl, rfl⟩
  obtain ⟨hl6, hsel⟩ := ears_small es
  obtain ⟨ls, hls⟩ : ∃ ls, earsM es = ls := ⟨_, rfl⟩
  rw [hls] at hl6 hsel ⊢
  clear hls
  refine L.mv rfl rfl ?_
  refine L.ex rfl rfl rfl ?_
  refine L.ex rfl rfl rfl ?_
  refine L.as rfl rfl ?_
  refine L.as rfl rfl ?_
  refine L.nil ?_
  refine T.of_seq ?_
  refine T.drawC 7 [(7, aP b7 0), (2, aN xx), (9, aL 3 (lisS ls))] ([.blk b7 32 t.cs]) (fun _ => []) [] (fun n x _ post => match n with
    | 0 => x = .v (.g (t.cs)) ∧ post = []
    | 1 => x = aN xx ∧ post = []
    | 2 => x = aL 3 (lisS ls) ∧ post = []
    | 3 => x = aL 2 (calS (dispM ls t xx).1) ∧ post = []
    | 4 => x = .v (.g (t.cs)) ∧ post = []
    | 5 => x = aN xx ∧ post = []
    | 6 => x = aL 1 (ints (pathM t xx)) ∧ post = []
    | _ => False) hmixed rfl rfl rfl (by repeat constructor) (List.Perm.refl _) rfl ⟨?_, ?_, ?_, ?_, ?_, ?_, ?_, trivial⟩ ?_
  · intro X posts σ' Ωf hsb hA
    refine L.ldg (ys := t.cs) 0 a32 s32 (hsb.get rfl) rfl (by rw [List.drop_zero]; exact List.take_of_length_le (by show t.cs.length ≤ 8; rw [Tr.cs_d, List.length_map, Tr.d_len]; exact Nat.le_refl _)) (by rw [Tr.cs_d, List.length_map, Tr.d_len]) rfl ?_
    exact L.last (G.fin [] ⟨rfl, rfl⟩ rfl)
  · intro X posts σ' Ωf hsb hA
    refine L.mv (hsb.get rfl) rfl ?_
    exact L.last (G.fin [] ⟨rfl, rfl⟩ rfl)
  · intro X posts σ' Ωf hsb hA
    refine L.mv (hsb.get rfl) rfl ?_
    exact L.last (G.fin [] ⟨rfl, rfl⟩ rfl)
  · intro X posts σ' Ωf hsb hA
    have hx0 := (hA 0 rfl).2.1
    have l38 : σ'.lookup 38 = some (.v (.g (t.cs))) := (hA 0 rfl).1.trans (congrArg some hx0)
    have hx1 := (hA 1 rfl).2.1
    have l39 : σ'.lookup 39 = some (aN xx) := (hA 1 rfl).1.trans (congrArg some hx1)
    have hx2 := (hA 2 rfl).2.1
    have l40 : σ'.lookup 40 = some (aL 3 (lisS ls)) := (hA 2 rfl).1.trans (congrArg some hx2)
    refine L.call e8 (evs3t l38 l39 l40) rfl (f8 ls (by omega) hsel t hok (by omega) xx) ?_
    rintro _ _ ⟨rfl, rfl⟩
    exact L.last (G.fin [] ⟨rfl, rfl⟩ rfl)
  · intro X posts σ' Ωf hsb hA
    refine L.ldg (ys := t.cs) 0 a32 s32 (hsb.get rfl) rfl (by rw [List.drop_zero]; exact List.take_of_length_le (by show t.cs.length ≤ 8; rw [Tr.cs_d, List.length_map, Tr.d_len]; exact Nat.le_refl _)) (by rw [Tr.cs_d, List.length_map, Tr.d_len]) rfl ?_
    exact L.last (G.fin [] ⟨rfl, rfl⟩ rfl)
  · intro X posts σ' Ωf hsb hA
    refine L.mv (hsb.get rfl) rfl ?_
    exact L.last (G.fin [] ⟨rfl, rfl⟩ rfl)
  · intro X posts σ' Ωf hsb hA
    have hx4 := (hA 4 rfl).2.1
    have l42 : σ'.lookup 42 = some (.v (.g (t.cs))) := (hA 4 rfl).1.trans (congrArg some hx4)
    have hx5 := (hA 5 rfl).2.1
    have l43 : σ'.lookup 43 = some (aN xx) := (hA 5 rfl).1.trans (congrArg some hx5)
    refine L.call e9 (evs2t l42 l43) rfl (f9 t hok (by omega) xx) ?_
    rintro _ _ ⟨rfl, rfl⟩
    exact L.last (G.fin [] ⟨rfl, rfl⟩ rfl)
  intro X posts hR
  obtain ⟨hx0, hp0⟩ : X 0 = .v (.g (t.cs)) ∧ posts 0 = [] := hR 0 rfl
  obtain ⟨hx1, hp1⟩ : X 1 = aN xx ∧ posts 1 = [] := hR 1 rfl
  obtain ⟨hx2, hp2⟩ : X 2 = aL 3 (lisS ls) ∧ posts 2 = [] := hR 2 rfl
  obtain ⟨hx3, hp3⟩ : X 3 = aL 2 (calS (dispM ls t xx).1) ∧ posts 3 = [] := hR 3 rfl
  obtain ⟨hx4, hp4⟩ : X 4 = .v (.g (t.cs)) ∧ posts 4 = [] := hR 4 rfl
  obtain ⟨hx5, hp5⟩ : X 5 = aN xx ∧ posts 5 = [] := hR 5 rfl
  obtain ⟨hx6, hp6⟩ : X 6 = aL 1 (ints (pathM t xx)) ∧ posts 6 = [] := hR 6 rfl
  have hpp : (List.range 7).flatMap (leftC 7 (fun i => ([] : List (Option Nat)).getD i none) posts) = [] := by
    show posts 0 ++ (posts 1 ++ (posts 2 ++ (posts 3 ++ (posts 4 ++ (posts 5 ++ (posts 6 ++ [])))))) = _
    simp only [hp0, hp1, hp2, hp3, hp4, hp5, hp6, List.append_nil]
  rw [hpp]
  refine L.sub (σ' := [(41, aL 2 (calS (dispM ls t xx).1)), (44, aL 1 (ints (pathM t xx))), (7, aP b7 0), (2, aN xx), (9, aL 3 (lisS ls))]) ⟨congrArg some hx3, congrArg some hx6, rfl, rfl, rfl, trivial⟩ ?_
  have hcnt := fun (j : Nat) (hj : j < ls.length) (a : Int) => disp_cnt ls t xx hsq hj a
  have hsum := disp_sum ls t xx hsq
  have hsA := fun (j : Nat) (hj : j < ls.length) (l : List Int) => sumA_le ls t xx hsq hj l
  obtain ⟨got, hgot⟩ : ∃ got, (dispM ls t xx).1 = got := ⟨_, rfl⟩
  obtain ⟨way, hway⟩ : ∃ way, pathM t xx = way := ⟨_, rfl⟩
  rw [hgot, hway]
  simp only [hgot, hway] at hcnt hsum hsA
  clear hgot hway
  refine L.as rfl rfl ?_
  refine L.as rfl rfl ?_
  refine L.last ?_
  refine T.go (fun _ _ h => h) ?_
  refine T.rg ?_
  refine L.as rfl rfl ?_
  refine L.as rfl rfl ?_
  refine L.nil ?_
  refine T.of_seq ?_
  refine T.rg ?_
  refine L.mv rfl rfl ?_
  refine L.lenL Tryz.underlying43 rfl rfl fun hl46 => ?_
  refine L.mv rfl rfl ?_
  refine L.nil ?_
  refine T.block ?_
  refine T.loop (fun m σ Ω => ∃ k : Nat, k ≤ ls.length ∧ m = ls.length - k ∧ sumB got (allF ls t) k ≤ k * 12 ∧ σ = [(47, aN k), (46, aN (lisS ls).length), (45, aL 3 (lisS ls)), (14, aN ((sumB got (allF ls t) k : Nat) : Int)), (13, aB ((ls.take k).any (fun e => e.2.2))), (12, aL 1 (ints way)), (11, aL 2 (calS got)), (9, aL 3 (lisS ls)), (7, aP b7 0)] ∧ Ω = [.blk b7 32 t.cs]) (ls.length) _ (⟨0, Nat.zero_le _, rfl, Nat.zero_le _, rfl, rfl⟩) (by repeat constructor) ?_
  rintro m σ Ω ⟨k, hk, rfl, hsb, rfl, rfl⟩
  have hll := lis_len ls
  refine T.rg ?_
  refine L.cmp rfl rfl rfl rfl ?_
  refine L.nil ?_
  refine T.of_seq ?_
  refine T.cond rfl (fun h48 => ?_) (fun h48 => ?_)
  · skip
    have hlt : k < ls.length := by have := of_decide_eq_true h48; omega
    refine T.skip ?_
    refine T.go (fun _ _ h => h) ?_
    refine T.of_seq ?_
    refine T.block ?_
    refine T.rg ?_
    refine L.mv rfl rfl ?_
    refine L.ixL k _ Tryz.underlying43 s54 rfl rfl rfl (lis_get hlt) rfl ?_
    refine L.lig a54 s54 rfl rfl rfl rfl ?_
    refine L.alloc z54 rfl rfl fun b16 => ?_
    refine L.as rfl rfl ?_
    refine L.stog 0 s54 rfl rfl rfl rfl rfl rfl ?_
    refine L.nil ?_
    refine T.cut (fun σ Ω => σ = [(16, aP b16 0), (47, aN k), (46, aN (lisS ls).length), (45, aL 3 (lisS ls)), (15, aN k), (14, aN ((sumB got (allF ls t) k : Nat) : Int)), (13, aB ((ls.take (k + 1)).any (fun e => e.2.2))), (12, aL 1 (ints way)), (11, aL 2 (calS got)), (9, aL 3 (lisS ls)), (7, aP b7 0)] ∧ Ω = [.blk b16 54 [.d (.l 4 (sel ls[k].1)), .d (.b ls[k].2.1), .d (.b ls[k].2.2)], .blk b7 32 t.cs]) ?_ ?_
    · rintro σ Ω ⟨rfl, rfl⟩
      refine T.rg ?_
      refine L.ldg (ys := t.cs) 1 a32 s32 rfl rfl (by rw [List.drop_zero]; exact List.take_of_length_le (by show t.cs.length ≤ 8; rw [Tr.cs_d, List.length_map, Tr.d_len]; exact Nat.le_refl _)) (by rw [Tr.cs_d, List.length_map, Tr.d_len]) rfl ?_
      refine L.fa Tryz.underlying54 rfl s52 rfl rfl ?_
      refine L.ld 0 o52 rfl rfl rfl rfl ?_
      refine L.call e10 rfl rfl (f10 ls[k].1 (hsel _ (List.getElem_mem hlt)) t hok (by omega)) ?_
      rintro _ _ ⟨rfl, rfl⟩
      refine L.lenL Tryz.underlying49 rfl rfl fun hl61 => ?_
      rw [ints_len] at hl61 ⊢
      refine L.mv rfl rfl ?_
      refine L.nil ?_
      refine T.block ?_
      refine T.conv (drop_at (i := 0) rfl rfl) ?_
      refine T.loop (fun m σ Ω => ∃ q : Nat, q ≤ (allM ls[k].1 t).length ∧ m = (allM ls[k].1 t).length - q ∧ σ = [(62, aN q), (61, aN (allM ls[k].1 t).length), (60, aL 1 (ints (allM ls[k].1 t))), (14, aN ((sumB got (allF ls t) k + sumA got k ((allM ls[k].1 t).take q) : Nat) : Int)), (47, aN k), (46, aN (lisS ls).length), (45, aL 3 (lisS ls)), (15, aN k), (13, aB ((ls.take (k + 1)).any (fun e => e.2.2))), (12, aL 1 (ints way)), (11, aL 2 (calS got)), (9, aL 3 (lisS ls)), (7, aP b7 0)] ∧ Ω = [.blk b7 32 t.cs]) ((allM ls[k].1 t).length) _ (⟨0, Nat.zero_le _, rfl, rfl, rfl⟩) (by repeat constructor) ?_
      rintro m σ Ω ⟨q, hq, rfl, rfl, rfl⟩
      have hfl := allM_len ls[k].1 t
      have hsq1 := hsA k hlt ((allM ls[k].1 t).take (q + 1))
      have htl : ((allM ls[k].1 t).take (q + 1)).length ≤ (allM ls[k].1 t).length := List.length_take_le' _ _
      refine T.rg ?_
      refine L.cmp rfl rfl rfl rfl ?_
      refine L.nil ?_
      refine T.of_seq ?_
      refine T.cond rfl (fun h63 => ?_) (fun h63 => ?_)
      · skip
        have hlq : q < (allM ls[k].1 t).length := by have := of_decide_eq_true h63; omega
        refine T.skip ?_
        refine T.go (fun _ _ h => h) ?_
        refine T.of_seq ?_
        refine T.block ?_
        refine T.rg ?_
        refine L.ixL q _ Tryz.underlying49 s3 rfl rfl rfl (ints_get hlq) rfl ?_
        refine L.li o3 rfl rfl ?_
        refine L.as rfl rfl ?_
        refine L.nil ?_
        refine T.rg ?_
        refine L.as rfl rfl ?_
        refine L.nil ?_
        refine T.of_seq ?_
        refine T.rg ?_
        refine L.mv rfl rfl ?_
        refine L.lenL Tryz.underlying49 rfl rfl fun hl67 => ?_
        rw [ints_len] at hl67 ⊢
        refine L.mv rfl rfl ?_
        refine L.nil ?_
        refine T.block ?_
        refine T.loop (fun m σ Ω => ∃ r : Nat, r ≤ way.length ∧ m = way.length - r ∧ σ = [(68, aN r), (67, aN way.length), (66, aL 1 (ints way)), (19, aB ((way.take r).any fun y => decide (y = (allM ls[k].1 t)[q]))), (18, aN (allM ls[k].1 t)[q]), (62, aN q), (61, aN (allM ls[k].1 t).length), (60, aL 1 (ints (allM ls[k].1 t))), (14, aN ((sumB got (allF ls t) k + sumA got k ((allM ls[k].1 t).take q) : Nat) : Int)), (47, aN k), (46, aN (lisS ls).length), (45, aL 3 (lisS ls)), (15, aN k), (13, aB ((ls.take (k + 1)).any (fun e => e.2.2))), (12, aL 1 (ints way)), (11, aL 2 (calS got)), (9, aL 3 (lisS ls)), (7, aP b7 0)] ∧ Ω = [.blk b7 32 t.cs]) (way.length) _ (⟨0, Nat.zero_le _, rfl, rfl, rfl⟩) (by repeat constructor) ?_
        rintro m σ Ω ⟨r, hr, rfl, rfl, rfl⟩
        refine T.rg ?_
        refine L.cmp rfl rfl rfl rfl ?_
        refine L.nil ?_
        refine T.of_seq ?_
        refine T.cond rfl (fun h69 => ?_) (fun h69 => ?_)
        · skip
          have hlr : r < way.length := by have := of_decide_eq_true h69; omega
          refine T.skip ?_
          refine T.go (fun _ _ h => h) ?_
          refine T.of_seq ?_
          refine T.block ?_
          refine T.rg ?_
          refine L.ixL r _ Tryz.underlying49 s3 rfl rfl rfl (ints_get hlr) rfl ?_
          refine L.li o3 rfl rfl ?_
          refine L.as rfl rfl ?_
          refine L.nil ?_
          refine T.region ?_
          refine L.mv rfl rfl ?_
          refine L.mv rfl rfl ?_
          refine L.caseB 73 rfl (fun h73 => ?_) (fun h73 => ?_)
          · skip
            refine L.off rfl rfl rfl rfl ?_
            refine L.off rfl rfl rfl rfl ?_
            refine L.off rfl rfl rfl rfl ?_
            refine L.pkT rfl rfl rfl ?_
            refine L.as rfl rfl ?_
            refine L.last ?_
            refine T.go (fun _ _ h => h) ?_
            refine T.region ?_
            refine L.setB (t := 19) (b' := (way.take (r + 1)).any fun y => decide (y = (allM ls[k].1 t)[q])) rfl (by rw [take_snoc' way r hlr, List.any_append, h73]; simp <;> rfl) ?_
            refine L.ar ((r + 1 : Nat) : Int) rfl rfl rfl (by omega) rfl ?_
            refine L.mv rfl rfl ?_
            refine L.last ?_
            refine G.round (way.length - (r + 1)) _ (by omega) ⟨r + 1, by omega, rfl, rfl, rfl⟩ (by repeat constructor)
          · skip
            refine L.on rfl rfl ?_
            refine L.mv rfl rfl ?_
            refine L.on rfl rfl ?_
            refine L.mv rfl rfl ?_
            refine L.on rfl rfl ?_
            refine L.cmp rfl rfl rfl rfl ?_
            refine L.pkF rfl rfl rfl ?_
            refine L.as rfl rfl ?_
            refine L.last ?_
            refine T.go (fun _ _ h => h) ?_
            refine T.region ?_
            refine L.setB (t := 19) (b' := (way.take (r + 1)).any fun y => decide (y = (allM ls[k].1 t)[q])) rfl (by rw [take_snoc' way r hlr, List.any_append, h73]; simp <;> rfl) ?_
            refine L.ar ((r + 1 : Nat) : Int) rfl rfl rfl (by omega) rfl ?_
            refine L.mv rfl rfl ?_
            refine L.last ?_
            refine G.round (way.length - (r + 1)) _ (by omega) ⟨r + 1, by omega, rfl, rfl, rfl⟩ (by repeat constructor)
        · skip
          have hgr : way.length ≤ r := by have := of_decide_eq_false h69; omega
          refine T.exit ?_
          refine T.go (fun _ _ h => h) ?_
          refine T.rg ?_
          rw [show way.take r = way from List.take_of_length_le hgr]
          refine L.as rfl rfl ?_
          refine L.nil ?_
          refine T.of_seq ?_
          refine T.rg ?_
          refine L.mv rfl rfl ?_
          refine L.lenL Tryz.underlying47 rfl rfl fun hl80 => ?_
          rw [cal_len] at hl80 ⊢
          refine L.mv rfl rfl ?_
          refine L.nil ?_
          refine T.block ?_
          refine T.loop (fun m σ Ω => ∃ c : Nat, c ≤ got.length ∧ m = got.length - c ∧ σ = [(81, aN c), (80, aN got.length), (79, aL 2 (calS got)), (22, aN ((cntC (got.take c) k (allM ls[k].1 t)[q] : Nat) : Int)), (19, aB (way.any fun y => decide (y = (allM ls[k].1 t)[q]))), (18, aN (allM ls[k].1 t)[q]), (62, aN q), (61, aN (allM ls[k].1 t).length), (60, aL 1 (ints (allM ls[k].1 t))), (14, aN ((sumB got (allF ls t) k + sumA got k ((allM ls[k].1 t).take q) : Nat) : Int)), (47, aN k), (46, aN (lisS ls).length), (45, aL 3 (lisS ls)), (15, aN k), (13, aB ((ls.take (k + 1)).any (fun e => e.2.2))), (12, aL 1 (ints way)), (11, aL 2 (calS got)), (9, aL 3 (lisS ls)), (7, aP b7 0)] ∧ Ω = [.blk b7 32 t.cs]) (got.length) _ (⟨0, Nat.zero_le _, rfl, rfl, rfl⟩) (by repeat constructor) ?_
          rintro m σ Ω ⟨c, hc, rfl, rfl, rfl⟩
          have hcl := cntC_le (got.take c) k (allM ls[k].1 t)[q]
          have hctl : (got.take c).length = c := by rw [List.length_take]; omega
          refine T.rg ?_
          refine L.cmp rfl rfl rfl rfl ?_
          refine L.nil ?_
          refine T.of_seq ?_
          refine T.cond rfl (fun h82 => ?_) (fun h82 => ?_)
          · skip
            have hlc : c < got.length := by have := of_decide_eq_true h82; omega
            refine T.skip ?_
            refine T.go (fun _ _ h => h) ?_
            refine T.of_seq ?_
            refine T.block ?_
            refine T.rg ?_
            refine L.ixL c _ Tryz.underlying47 s57 rfl rfl rfl (cal_get hlc) rfl ?_
            refine L.lig a57 s57 rfl rfl rfl rfl ?_
            refine L.alloc z57 rfl rfl fun b24 => ?_
            refine L.stog 0 s57 rfl rfl rfl rfl rfl rfl ?_
            refine L.nil ?_
            refine T.rg ?_
            refine L.fa Tryz.underlying57 rfl s3 rfl rfl ?_
            refine L.ld 0 o3 rfl rfl rfl rfl ?_
            refine L.mv rfl rfl ?_
            refine L.cmp rfl rfl rfl rfl ?_
            refine L.mv rfl rfl ?_
            refine L.caseB 89 rfl (fun h89 => ?_) (fun h89 => ?_)
            · skip
              refine L.on rfl rfl ?_
              refine L.fa Tryz.underlying57 rfl s3 rfl rfl ?_
              refine L.on rfl rfl ?_
              refine L.ld 0 o3 rfl rfl rfl rfl ?_
              refine L.on rfl rfl ?_
              refine L.mv rfl rfl ?_
              refine L.on rfl rfl ?_
              refine L.cmp rfl rfl rfl rfl ?_
              refine L.pkT rfl rfl rfl ?_
              refine L.nil ?_
              refine T.cond rfl (fun h94 => ?_) (fun h94 => ?_)
              · skip
                refine T.region ?_
                refine L.mv rfl rfl ?_
                refine L.ar ((cntC (got.take (c + 1)) k (allM ls[k].1 t)[q] : Nat) : Int) rfl rfl rfl (by rw [cnt_take_yes hlc h89 h94]; omega) rfl ?_
                refine L.as rfl rfl ?_
                refine L.last ?_
                refine T.go (fun _ _ h => h) ?_
                refine T.region ?_
                refine L.ar ((c + 1 : Nat) : Int) rfl rfl rfl (by omega) rfl ?_
                refine L.mv rfl rfl ?_
                refine L.last ?_
                refine G.conv (drop_at (i := 0) rfl rfl) ?_
                refine G.round (got.length - (c + 1)) _ (by omega) ⟨c + 1, by omega, rfl, rfl, rfl⟩ (by repeat constructor)
              · skip
                rw [← cnt_take_no (k := k) (a := (allM ls[k].1 t)[q]) hlc (by first | (rw [h89, h94]; rfl) | (rw [h89]; rfl))]
                refine T.skip ?_
                refine T.go (fun _ _ h => h) ?_
                refine T.region ?_
                refine L.ar ((c + 1 : Nat) : Int) rfl rfl rfl (by omega) rfl ?_
                refine L.mv rfl rfl ?_
                refine L.last ?_
                refine G.conv (drop_at (i := 0) rfl rfl) ?_
                refine G.round (got.length - (c + 1)) _ (by omega) ⟨c + 1, by omega, rfl, rfl, rfl⟩ (by repeat constructor)
            · skip
              rw [← cnt_take_no (k := k) (a := (allM ls[k].1 t)[q]) hlc (by rw [h89]; rfl)]
              refine L.off rfl rfl rfl rfl ?_
              refine L.off rfl rfl rfl rfl ?_
              refine L.off rfl rfl rfl rfl ?_
              refine L.off rfl rfl rfl rfl ?_
              refine L.pkF rfl rfl rfl ?_
              refine L.nil ?_
              refine T.condF rfl ?_
              refine T.skip ?_
              refine T.go (fun _ _ h => h) ?_
              refine T.region ?_
              refine L.ar ((c + 1 : Nat) : Int) rfl rfl rfl (by omega) rfl ?_
              refine L.mv rfl rfl ?_
              refine L.last ?_
              refine G.conv (drop_at (i := 0) rfl rfl) ?_
              refine G.round (got.length - (c + 1)) _ (by omega) ⟨c + 1, by omega, rfl, rfl, rfl⟩ (by repeat constructor)
          · skip
            have hgc : got.length ≤ c := by have := of_decide_eq_false h82; omega
            refine T.exit ?_
            refine T.go (fun _ _ h => h) ?_
            refine T.rg ?_
            rw [show got.take c = got from List.take_of_length_le hgc]
            have hc3 := hcnt k hlt (allM ls[k].1 t)[q]
            have hst := sumA_take got k hlq
            refine L.mv rfl rfl ?_
            refine L.mv rfl rfl ?_
            refine L.ar ((sumB got (allF ls t) k + sumA got k ((allM ls[k].1 t).take (q + 1)) : Nat) : Int) rfl rfl rfl (by rw [hst] at hsq1 ⊢; omega) rfl ?_
            refine L.as rfl rfl ?_
            refine L.nil ?_
            refine T.rg ?_
            obtain ⟨cn, hcn⟩ : ∃ cn, cntC got k (allM ls[k].1 t)[q] = cn := ⟨_, rfl⟩
            obtain ⟨on, hon⟩ : ∃ on, (way.any fun y => decide (y = (allM ls[k].1 t)[q])) = on := ⟨_, rfl⟩
            rw [hcn, hon]
            have h3 : (cn = 1 ∧ on = true) ∨ (cn = 0 ∧ on = true ∧ (ls.any fun e => e.2.2) = true) ∨ (cn = 0 ∧ on = false) := by
              rw [hcn] at hc3
              have hmem : on = true ↔ (allM ls[k].1 t)[q] ∈ way := by rw [← hon, List.any_eq_true]; exact ⟨fun ⟨y, hy, he⟩ => of_decide_eq_true he ▸ hy, fun h => ⟨_, h, decide_eq_true rfl⟩⟩
              rcases Nat.lt_or_ge 0 cn with h | h
              · have h1 : cn = 1 := by omega
                exact .inl ⟨h1, hmem.2 (hc3.2.1 h1)⟩
              · have h0 : cn = 0 := by omega
                cases hb : on with
                | false => exact .inr (.inr ⟨h0, rfl⟩)
                | true =>
                  refine .inr (.inl ⟨h0, rfl, ?_⟩)
                  cases hs : ls.any fun e => e.2.2 with
                  | true => rfl
                  | false =>
                    have h1 := hc3.2.2 (hmem.1 hb) (List.getElem_mem _) (fun e he => by have := List.any_eq_false.1 hs e he; simpa using this)
                    omega
            clear hcn hon
            rcases h3 with ⟨rfl, rfl⟩ | ⟨rfl, rfl, hany⟩ | ⟨rfl, rfl⟩
            · skip
              refine L.mv rfl rfl ?_
              refine L.cmp rfl rfl rfl rfl ?_
              refine L.setB (t := 102) (b' := false) rfl (by decide) ?_
              refine L.mv rfl rfl ?_
              refine L.on rfl rfl ?_
              refine L.mv rfl rfl ?_
              refine L.on rfl rfl ?_
              refine L.cmp rfl rfl rfl rfl ?_
              refine L.setB (t := 105) (b' := true) rfl (by decide) ?_
              refine L.on rfl rfl ?_
              refine L.mv rfl rfl ?_
              refine L.on rfl rfl ?_
              refine L.mv rfl rfl ?_
              refine L.on rfl rfl ?_
              refine L.not rfl rfl ?_
              refine L.on rfl rfl ?_
              refine L.pkT rfl rfl rfl ?_
              refine L.pkF rfl rfl rfl ?_
              refine L.mv rfl rfl ?_
              refine L.on rfl rfl ?_
              refine L.mv rfl rfl ?_
              refine L.on rfl rfl ?_
              refine L.mv rfl rfl ?_
              refine L.on rfl rfl ?_
              refine L.mv rfl rfl ?_
              refine L.on rfl rfl ?_
              refine L.cmp rfl rfl rfl rfl ?_
              refine L.setB (t := 115) (b' := false) rfl (by decide) ?_
              refine L.on rfl rfl ?_
              refine L.pkT rfl rfl rfl ?_
              refine L.on rfl rfl ?_
              refine L.mv rfl rfl ?_
              refine L.off rfl rfl rfl rfl ?_
              refine L.off rfl rfl rfl rfl ?_
              refine L.off rfl rfl rfl rfl ?_
              refine L.on rfl rfl ?_
              refine L.pkF rfl rfl rfl ?_
              refine L.pkF rfl rfl rfl ?_
              refine L.nil ?_
              refine T.condF rfl ?_
              refine T.skip ?_
              refine T.go (fun _ _ h => h) ?_
              refine T.region ?_
              refine L.ar ((q + 1 : Nat) : Int) rfl rfl rfl (by omega) rfl ?_
              refine L.mv rfl rfl ?_
              refine L.last ?_
              refine G.round ((allM ls[k].1 t).length - (q + 1)) _ (by omega) ⟨q + 1, by omega, rfl, rfl, rfl⟩ (by repeat constructor)
            · skip
              refine L.mv rfl rfl ?_
              refine L.cmp rfl rfl rfl rfl ?_
              refine L.setB (t := 102) (b' := false) rfl (by decide) ?_
              refine L.mv rfl rfl ?_
              refine L.on rfl rfl ?_
              refine L.mv rfl rfl ?_
              refine L.on rfl rfl ?_
              refine L.cmp rfl rfl rfl rfl ?_
              refine L.setB (t := 105) (b' := false) rfl (by decide) ?_
              refine L.on rfl rfl ?_
              refine L.mv rfl rfl ?_
              refine L.off rfl rfl rfl rfl ?_
              refine L.off rfl rfl rfl rfl ?_
              refine L.on rfl rfl ?_
              refine L.pkF rfl rfl rfl ?_
              refine L.pkF rfl rfl rfl ?_
              refine L.mv rfl rfl ?_
              refine L.on rfl rfl ?_
              refine L.mv rfl rfl ?_
              refine L.on rfl rfl ?_
              refine L.mv rfl rfl ?_
              refine L.on rfl rfl ?_
              refine L.mv rfl rfl ?_
              refine L.on rfl rfl ?_
              refine L.cmp rfl rfl rfl rfl ?_
              refine L.setB (t := 115) (b' := true) rfl (by decide) ?_
              refine L.on rfl rfl ?_
              refine L.pkT rfl rfl rfl ?_
              refine L.on rfl rfl ?_
              refine L.mv rfl rfl ?_
              refine L.on rfl rfl ?_
              refine L.mv rfl rfl ?_
              refine L.on rfl rfl ?_
              refine L.call e11 rfl rfl (f11 ls) ?_
              rintro _ _ ⟨rfl, rfl⟩
              rw [hany]
              refine L.on rfl rfl ?_
              refine L.not rfl rfl ?_
              refine L.on rfl rfl ?_
              refine L.pkT rfl rfl rfl ?_
              refine L.pkF rfl rfl rfl ?_
              refine L.nil ?_
              refine T.condF rfl ?_
              refine T.skip ?_
              refine T.go (fun _ _ h => h) ?_
              refine T.region ?_
              refine L.ar ((q + 1 : Nat) : Int) rfl rfl rfl (by omega) rfl ?_
              refine L.mv rfl rfl ?_
              refine L.last ?_
              refine G.round ((allM ls[k].1 t).length - (q + 1)) _ (by omega) ⟨q + 1, by omega, rfl, rfl, rfl⟩ (by repeat constructor)
            · skip
              refine L.mv rfl rfl ?_
              refine L.cmp rfl rfl rfl rfl ?_
              refine L.setB (t := 102) (b' := false) rfl (by decide) ?_
              refine L.mv rfl rfl ?_
              refine L.on rfl rfl ?_
              refine L.mv rfl rfl ?_
              refine L.on rfl rfl ?_
              refine L.cmp rfl rfl rfl rfl ?_
              refine L.setB (t := 105) (b' := false) rfl (by decide) ?_
              refine L.on rfl rfl ?_
              refine L.mv rfl rfl ?_
              refine L.off rfl rfl rfl rfl ?_
              refine L.off rfl rfl rfl rfl ?_
              refine L.on rfl rfl ?_
              refine L.pkF rfl rfl rfl ?_
              refine L.pkF rfl rfl rfl ?_
              refine L.mv rfl rfl ?_
              refine L.on rfl rfl ?_
              refine L.mv rfl rfl ?_
              refine L.on rfl rfl ?_
              refine L.mv rfl rfl ?_
              refine L.off rfl rfl rfl rfl ?_
              refine L.off rfl rfl rfl rfl ?_
              refine L.on rfl rfl ?_
              refine L.pkF rfl rfl rfl ?_
              refine L.on rfl rfl ?_
              refine L.mv rfl rfl ?_
              refine L.off rfl rfl rfl rfl ?_
              refine L.off rfl rfl rfl rfl ?_
              refine L.off rfl rfl rfl rfl ?_
              refine L.on rfl rfl ?_
              refine L.pkF rfl rfl rfl ?_
              refine L.pkF rfl rfl rfl ?_
              refine L.nil ?_
              refine T.condF rfl ?_
              refine T.skip ?_
              refine T.go (fun _ _ h => h) ?_
              refine T.region ?_
              refine L.ar ((q + 1 : Nat) : Int) rfl rfl rfl (by omega) rfl ?_
              refine L.mv rfl rfl ?_
              refine L.last ?_
              refine G.round ((allM ls[k].1 t).length - (q + 1)) _ (by omega) ⟨q + 1, by omega, rfl, rfl, rfl⟩ (by repeat constructor)
      · skip
        have hgq : (allM ls[k].1 t).length ≤ q := by have := of_decide_eq_false h63; omega
        refine T.exit ?_
        refine T.go (fun _ _ h => h) ?_
        refine T.region ?_
        have hs1 : sumB got (allF ls t) k + sumA got k ((allM ls[k].1 t).take q) = sumB got (allF ls t) (k + 1) := by show _ = sumB _ _ _ + _; rw [List.take_of_length_le hgq, allF_getD hlt]
        rw [hs1]
        refine L.ar ((k + 1 : Nat) : Int) rfl rfl rfl (by omega) rfl ?_
        refine L.mv rfl rfl ?_
        refine L.last ?_
        refine G.round (ls.length - (k + 1)) _ (by omega) ⟨k + 1, by omega, rfl, by have h1 := hsA k hlt (allM ls[k].1 t); have h2 := allM_len ls[k].1 t; show sumB _ _ _ + _ ≤ _; rw [allF_getD hlt]; omega, rfl, rfl⟩ (by repeat constructor)
    · skip
      refine T.region ?_
      refine L.mv rfl rfl ?_
      refine L.mv rfl rfl ?_
      refine L.caseB 53 rfl (fun h53 => ?_) (fun h53 => ?_)
      · skip
        refine L.off rfl rfl rfl rfl ?_
        refine L.off rfl rfl rfl rfl ?_
        refine L.pkT rfl rfl rfl ?_
        refine L.as rfl rfl ?_
        refine L.last ?_
        refine G.setB (t := 13) (b' := ((ls.take (k + 1)).any (fun e => e.2.2))) rfl (by rw [take_snoc' ls k hlt, List.any_append, h53]; rfl) ?_
        exact G.cut _ ⟨rfl, rfl⟩ (by repeat constructor)
      · skip
        refine L.on rfl rfl ?_
        refine L.fa Tryz.underlying54 rfl s4 rfl rfl ?_
        refine L.on rfl rfl ?_
        refine L.ld 0 o4 rfl rfl rfl rfl ?_
        refine L.pkF rfl rfl rfl ?_
        refine L.as rfl rfl ?_
        refine L.last ?_
        refine G.setB (t := 13) (b' := ((ls.take (k + 1)).any (fun e => e.2.2))) rfl (by rw [take_snoc' ls k hlt, List.any_append, h53]; simp) ?_
        exact G.cut _ ⟨rfl, rfl⟩ (by repeat constructor)
  · skip
    have hge : ls.length ≤ k := by have := of_decide_eq_false h48; omega
    refine T.exit ?_
    refine T.go (fun _ _ h => h) ?_
    refine T.rg ?_
    obtain rfl : k = ls.length := by omega
    rw [hsum, List.take_of_length_le (Nat.le_refl _)]
    refine L.mv rfl rfl ?_
    refine L.mv rfl rfl ?_
    refine L.lenL Tryz.underlying47 rfl rfl fun hl127 => ?_
    rw [cal_len]
    refine L.cmp rfl rfl rfl rfl ?_
    refine L.setB (t := 128) (b' := true) rfl (by simp) ?_
    refine L.mv rfl rfl ?_
    refine L.on rfl rfl ?_
    refine L.mv rfl rfl ?_
    refine L.on rfl rfl ?_
    refine L.mv rfl rfl ?_
    refine L.on rfl rfl ?_
    refine L.call e11 rfl rfl (f11 ls) ?_
    rintro _ _ ⟨rfl, rfl⟩
    refine L.on rfl rfl ?_
    refine L.eqBB Tryz.underlying4 rfl rfl rfl ?_
    refine L.setB (t := 133) (b' := true) rfl (by simp) ?_
    refine L.pkT rfl rfl rfl ?_
    refine L.as rfl rfl ?_
    refine L.nil ?_
    refine T.ret ?_
    refine G.conv (drop_at (i := 0) rfl rfl) ?_
    exact G.ret (res1 Tryz.results3 rfl) ⟨rfl, rfl⟩
end Go.Proofs.YtimimkdgofiloaaGreat
