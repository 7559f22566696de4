/- The document's listing, up from each node. Printed by gen.py. -/
import Derived.Test.YtlibfaghiogekaaS16
import Derived.Test.YtlibfaghiogekaaQr
namespace Go.Proofs.Ytlibfaghiogekaa
open Go Go.Q
theorem kidsAllV_take (ps : List SPart) (up : List Tr) : ∀ {l : List Tr} {k : Nat} (hk : k < l.length), kidsAllV ps (l.take (k + 1)) up = kidsAllV ps (l.take k) up ++ allV ps l[k] up
  | t :: l, 0, _ => by simp [kidsAllV]
  | t :: l, k + 1, hk => by
    have := kidsAllV_take ps up (l := l) (k := k) (by simpa using hk)
    simp only [List.take_succ_cons, kidsAllV, this, List.getElem_cons_succ, List.append_assoc]
theorem allV_len (ps : List SPart) (t : Tr) (up : List Tr) : (allV ps t up).length ≤ t.size := by rw [← down_all]; exact downM_len _ _ _ _
theorem kidsAllV_len (ps : List SPart) (l : List Tr) (up : List Tr) : (kidsAllV ps l up).length ≤ kidsSize l := by rw [← kidsDown_all]; exact kidsDown_len _ _ _ _
theorem kidsSize_len : ∀ l : List Tr, l.length ≤ kidsSize l
  | [] => Nat.le_refl _
  | .mk id kind tag text cl at' st kids :: l => by have := kidsSize_len l; simp only [List.length_cons, kidsSize, Tr.size]; omega
theorem elsC_d (t : Tr) : elsC 8 0 [(0, .g t.cs)] = some [t.d] := by cases t; rfl

set_option maxHeartbeats 4000000 in
theorem f13s (ps : List SPart) (hps : ps.length ≤ 500) (id kind : Int) (tag text : ByteArray) (cl : List ByteArray) (at' : List (ByteArray × ByteArray)) (st : List (ByteArray × Int)) (kids : List Tr) (u : List Tr) (hsz : u.length + (Tr.mk id kind tag text cl at' st kids).size ≤ 900) (hok : kidsOk (u ++ [(Tr.mk id kind tag text cl at' st kids)])) (ih : ∀ (k : Nat) (h : k < kids.length), Fc Try.prog 13 [L_ 8 (kidsD (u ++ [(Tr.mk id kind tag text cl at' st kids)]) ++ [kids[k].d]), L_ 4 (sel ps)] [] (Just (aL 1 (ints (allV ps kids[k] ((Tr.mk id kind tag text cl at' st kids) :: u.reverse)))))) : Fc Try.prog 13 [L_ 8 (kidsD (u ++ [(Tr.mk id kind tag text cl at' st kids)])), L_ 4 (sel ps)] [] (Just (aL 1 (ints (allV ps (Tr.mk id kind tag text cl at' st kids) u.reverse)))) := by
  have hwl : (kidsD (u ++ [(Tr.mk id kind tag text cl at' st kids)])).length = u.length + 1 := by rw [kidsD_len, List.length_append]; rfl
  have hgw : (kidsD (u ++ [(Tr.mk id kind tag text cl at' st kids)]))[u.length]? = some (Tr.mk id kind tag text cl at' st kids).d := by rw [kidsD_get (by simp)]; simp
  have hrev : (u ++ [(Tr.mk id kind tag text cl at' st kids)]).reverse = ((Tr.mk id kind tag text cl at' st kids) :: u.reverse) := by simp
  have hkl := kidsD_len kids
  have hkz := kidsSize_len kids
  have hsz2 : u.length + (kidsSize kids + 1) ≤ 900 := hsz
  refine Fc.enter Try.func13 rfl Try.ntmps13 rfl fun X w => ?_
  refine T.rg ?_
  refine L.as rfl rfl ?_
  refine L.nil ?_
  refine T.rg ?_
  refine L.mv rfl rfl ?_
  refine L.mv rfl rfl ?_
  refine L.lenL Try.underlying55 rfl rfl fun hl11 => ?_
  refine L.ar (u.length : Int) rfl rfl rfl (by omega) rfl ?_
  refine L.ixL u.length _ Try.underlying55 s57 rfl rfl rfl hgw rfl ?_
  refine L.lig (ys := (Tr.mk id kind tag text cl at' st kids).d) a57 s57 rfl (List.take_of_length_le (by rw [Tr.d_len]; exact Nat.le_refl _)) (Tr.d_len _) rfl ?_
  rw [← Tr.cs_d]
  refine L.alloc z57 rfl rfl fun b5 => ?_
  refine L.stog 0 s57 rfl rfl rfl rfl rfl rfl ?_
  refine L.nil ?_
  refine T.rg ?_
  refine L.bsR rfl Try.underlying52 i3 rfl rfl rfl rfl rfl fun b15 => ?_
  refine L.as rfl rfl ?_
  refine L.nil ?_
  refine T.cut (fun σ Ω => ∃ v, σ = [(6, aR v), (5, aP b5 0), (1, aL 4 (sel ps)), (0, aL 8 (kidsD (u ++ [(Tr.mk id kind tag text cl at' st kids)])))] ∧ Ω = [.row v 3 1 (ints (if fitsV ps.reverse ((Tr.mk id kind tag text cl at' st kids) :: u.reverse) = true then [id] else [])), .blk b5 57 (nodeC id kind tag text cl at' st (kidsD kids))]) ?_ ?_
  · rintro σ Ω ⟨v, rfl, rfl⟩
    refine T.of_seq ?_
    refine T.rg ?_
    refine L.fa Try.underlying57 rfl s55 rfl rfl ?_
    refine L.ld 1 o55 rfl rfl rfl rfl ?_
    refine L.lenL Try.underlying55 rfl rfl fun hl26 => ?_
    refine L.mv rfl rfl ?_
    refine L.nil ?_
    refine T.block ?_
    refine T.loop (fun m σ Ω => ∃ (k : Nat) (v : Value), k ≤ kids.length ∧ m = kids.length - k ∧ σ = [(27, aN k), (26, aN (kidsD kids).length), (25, aL 8 (kidsD kids)), (6, aR v), (5, aP b5 0), (1, aL 4 (sel ps)), (0, aL 8 (kidsD (u ++ [(Tr.mk id kind tag text cl at' st kids)])))] ∧ Ω = [.row v 3 1 (ints ((if fitsV ps.reverse ((Tr.mk id kind tag text cl at' st kids) :: u.reverse) = true then [id] else []) ++ kidsAllV ps (kids.take k) ((Tr.mk id kind tag text cl at' st kids) :: u.reverse))), .blk b5 57 (nodeC id kind tag text cl at' st (kidsD kids))]) (kids.length) _ (⟨0, v, Nat.zero_le _, rfl, rfl, by simp [kidsAllV]⟩) (by repeat constructor) ?_
    rintro m σ Ω ⟨k, v, hk, rfl, rfl, rfl⟩
    refine T.rg ?_
    refine L.cmp rfl rfl rfl rfl ?_
    refine L.nil ?_
    refine T.of_seq ?_
    refine T.cond rfl (fun h28 => ?_) (fun h28 => ?_)
    · skip
      have hlt : k < kids.length := by have := of_decide_eq_true h28; omega
      refine T.skip ?_
      refine T.go (fun _ _ h => h) ?_
      refine T.of_seq ?_
      refine T.block ?_
      refine T.rg ?_
      refine L.ixL k _ Try.underlying55 s57 rfl rfl rfl (kidsD_get hlt) rfl ?_
      refine L.lig (ys := kids[k].d) a57 s57 rfl (List.take_of_length_le (by rw [Tr.d_len]; exact Nat.le_refl _)) (Tr.d_len _) rfl ?_
      rw [← Tr.cs_d]
      refine L.alloc z57 rfl rfl fun b8 => ?_
      refine L.stog 0 s57 rfl rfl rfl rfl (by rw [Tr.cs_d, List.length_map, Tr.d_len]; rfl) rfl ?_
      refine L.nil ?_
      have hks := kidsSize_get hlt
      refine T.drawC 9 [(8, aP b8 0), (27, aN k), (26, aN (kidsD kids).length), (25, aL 8 (kidsD kids)), (6, aR v), (5, aP b5 0), (1, aL 4 (sel ps)), (0, aL 8 (kidsD (u ++ [(Tr.mk id kind tag text cl at' st kids)])))] [.blk b8 57 kids[k].cs, .row v 3 1 (ints ((if fitsV ps.reverse ((Tr.mk id kind tag text cl at' st kids) :: u.reverse) = true then [id] else []) ++ kidsAllV ps (kids.take k) ((Tr.mk id kind tag text cl at' st kids) :: u.reverse))), .blk b5 57 (nodeC id kind tag text cl at' st (kidsD kids))] (fun _ => []) [none, none, none, none, none, none, some 3, none, none] (fun n x _ post => match n with
        | 0 => x = aR v ∧ post = []
        | 1 => ∃ g, x = aR (.slice (some ⟨g, 0, none⟩) 0 0) ∧ post = []
        | 2 => x = aL 8 (kidsD (u ++ [(Tr.mk id kind tag text cl at' st kids)])) ∧ post = []
        | 3 => ∃ v3, x = aR v3 ∧ Em v3 57 8 (kidsD (u ++ [(Tr.mk id kind tag text cl at' st kids)])) post
        | 4 => x = .v (.g kids[k].cs) ∧ post = []
        | 5 => x = aL 8 [kids[k].d] ∧ post = []
        | 6 => x = aL 8 (kidsD (u ++ [(Tr.mk id kind tag text cl at' st kids)]) ++ [kids[k].d]) ∧ post = []
        | 7 => x = aL 4 (sel ps) ∧ post = []
        | 8 => x = aL 1 (ints (allV ps kids[k] ((Tr.mk id kind tag text cl at' st kids) :: u.reverse))) ∧ post = []
        | _ => False) hmixed rfl rfl rfl (by repeat constructor) (List.Perm.refl _) rfl ⟨?_, ?_, ?_, ?_, ?_, ?_, ?_, ?_, ?_, trivial⟩ ?_
      · intro X posts σ' Ωf hsb hA
        refine L.mv (hsb.get rfl) rfl ?_
        exact L.last (G.fin [] ⟨rfl, rfl⟩ rfl)
      · intro X posts σ' Ωf hsb hA
        refine L.bs0 Try.underlying55 i57 rfl rfl fun g => ?_
        exact L.last (G.fin [] ⟨g, rfl, rfl⟩ rfl)
      · intro X posts σ' Ωf hsb hA
        refine L.mv (hsb.get rfl) rfl ?_
        exact L.last (G.fin [] ⟨rfl, rfl⟩ rfl)
      · intro X posts σ' Ωf hsb hA
        obtain ⟨g, hx1, hp1⟩ := (hA 1 rfl).2
        have l32 : σ'.lookup 32 = some (aR (.slice (some ⟨g, 0, none⟩) 0 0)) := (hA 1 rfl).1.trans (congrArg some hx1)
        have hx2 := (hA 2 rfl).2.1
        have l33 : σ'.lookup 33 = some (aL 8 (kidsD (u ++ [(Tr.mk id kind tag text cl at' st kids)]))) := (hA 2 rfl).1.trans (congrArg some hx2)
        refine L.apE Try.underlying55 i57 rfl l32 l33 (by omega) (by omega) rfl fun v34 p34 h34 => ?_
        exact L.last (G.fin p34 ⟨v34, rfl, h34⟩ rfl)
      · intro X posts σ' Ωf hsb hA
        refine L.ldg (ys := kids[k].cs) 0 a57 s57 (hsb.get rfl) rfl (by rw [List.drop_zero]; exact List.take_of_length_le (by rw [Tr.cs_d, List.length_map, Tr.d_len]; exact Nat.le_refl _)) (by rw [Tr.cs_d, List.length_map, Tr.d_len]) rfl ?_
        exact L.last (G.fin [] ⟨rfl, rfl⟩ rfl)
      · intro X posts σ' Ωf hsb hA
        have hx4 := (hA 4 rfl).2.1
        have l35 : σ'.lookup 35 = some (.v (.g kids[k].cs)) := (hA 4 rfl).1.trans (congrArg some hx4)
        refine L.bsD rfl Try.underlying55 i57 rfl rfl (evp1 l35) (elsC_d _) rfl ?_
        exact L.last (G.fin [] ⟨rfl, rfl⟩ rfl)
      · intro X posts σ' Ωf hsb hA
        obtain ⟨v3, hx3, hp3⟩ := (hA 3 rfl).2
        have l34 : σ'.lookup 34 = some (aR v3) := (hA 3 rfl).1.trans (congrArg some hx3)
        have hx5 := (hA 5 rfl).2.1
        have l36 : σ'.lookup 36 = some (aL 8 [kids[k].d]) := (hA 5 rfl).1.trans (congrArg some hx5)
        refine L.ap1 Try.underlying55 i57 rfl rfl l34 l36 hp3 (by simp) (by simp; omega) (by simp; omega) rfl fun v37 => ?_
        refine L.pub 37 0 rfl rfl rfl ?_
        exact fun a w hs ha => L.last (G.fin [] ⟨rfl, rfl⟩ rfl) a w hs ha.two
      · intro X posts σ' Ωf hsb hA
        refine L.mv (hsb.get rfl) rfl ?_
        exact L.last (G.fin [] ⟨rfl, rfl⟩ rfl)
      · intro X posts σ' Ωf hsb hA
        have hx6 := (hA 6 rfl).2.1
        have l37 : σ'.lookup 37 = some (aL 8 (kidsD (u ++ [(Tr.mk id kind tag text cl at' st kids)]) ++ [kids[k].d])) := (hA 6 rfl).1.trans (congrArg some hx6)
        have hx7 := (hA 7 rfl).2.1
        have l38 : σ'.lookup 38 = some (aL 4 (sel ps)) := (hA 7 rfl).1.trans (congrArg some hx7)
        refine L.call e13 (evs2t l37 l38) rfl (ih k hlt) ?_
        rintro _ _ ⟨rfl, rfl⟩
        exact L.last (G.fin [] ⟨rfl, rfl⟩ rfl)
      intro X posts hR
      obtain ⟨hx0, hp0⟩ : X 0 = aR v ∧ posts 0 = [] := hR 0 rfl
      obtain ⟨g, hx1, hp1⟩ : ∃ g, X 1 = aR (.slice (some ⟨g, 0, none⟩) 0 0) ∧ posts 1 = [] := hR 1 rfl
      obtain ⟨hx2, hp2⟩ : X 2 = aL 8 (kidsD (u ++ [(Tr.mk id kind tag text cl at' st kids)])) ∧ posts 2 = [] := hR 2 rfl
      obtain ⟨v3, hx3, hp3⟩ : ∃ v3, X 3 = aR v3 ∧ Em v3 57 8 (kidsD (u ++ [(Tr.mk id kind tag text cl at' st kids)])) (posts 3) := hR 3 rfl
      obtain ⟨hx4, hp4⟩ : X 4 = .v (.g kids[k].cs) ∧ posts 4 = [] := hR 4 rfl
      obtain ⟨hx5, hp5⟩ : X 5 = aL 8 [kids[k].d] ∧ posts 5 = [] := hR 5 rfl
      obtain ⟨hx6, hp6⟩ : X 6 = aL 8 (kidsD (u ++ [(Tr.mk id kind tag text cl at' st kids)]) ++ [kids[k].d]) ∧ posts 6 = [] := hR 6 rfl
      obtain ⟨hx7, hp7⟩ : X 7 = aL 4 (sel ps) ∧ posts 7 = [] := hR 7 rfl
      obtain ⟨hx8, hp8⟩ : X 8 = aL 1 (ints (allV ps kids[k] ((Tr.mk id kind tag text cl at' st kids) :: u.reverse))) ∧ posts 8 = [] := hR 8 rfl
      have hpp : (List.range 9).flatMap (leftC 9 (fun i => ([none, none, none, none, none, none, some 3, none, none] : List (Option Nat)).getD i none) posts) = [] := by
        show posts 0 ++ (posts 1 ++ (posts 2 ++ ([] ++ (posts 4 ++ (posts 5 ++ (posts 6 ++ (posts 7 ++ (posts 8 ++ [])))))))) = _
        simp only [hp0, hp1, hp2, hp4, hp5, hp6, hp7, hp8, List.nil_append, List.append_nil]
      rw [hpp]
      refine L.sub (σ' := [(31, aR v), (39, aL 1 (ints (allV ps kids[k] ((Tr.mk id kind tag text cl at' st kids) :: u.reverse)))), (8, aP b8 0), (27, aN k), (26, aN (kidsD kids).length), (25, aL 8 (kidsD kids)), (6, aR v), (5, aP b5 0), (1, aL 4 (sel ps)), (0, aL 8 (kidsD (u ++ [(Tr.mk id kind tag text cl at' st kids)])))]) ⟨congrArg some hx0, congrArg some hx8, rfl, rfl, rfl, rfl, rfl, rfl, rfl, rfl, trivial⟩ ?_
      refine L.app 1 Try.underlying52 i3 rfl rfl rfl rfl rfl (by have h1 := kidsAllV_len ps (kids.take k) ((Tr.mk id kind tag text cl at' st kids) :: u.reverse); have h2 := allV_len ps kids[k] ((Tr.mk id kind tag text cl at' st kids) :: u.reverse); simp only [ints_len, List.length_append]; split <;> simp <;> (try omega)) (by have h1 := kidsAllV_len ps (kids.take k) ((Tr.mk id kind tag text cl at' st kids) :: u.reverse); have h2 := allV_len ps kids[k] ((Tr.mk id kind tag text cl at' st kids) :: u.reverse); simp only [ints_len, List.length_append]; split <;> simp <;> (try omega)) rfl (fun _ => rfl) fun v40 => ?_
      refine L.as rfl rfl ?_
      refine L.last ?_
      refine T.go (fun _ _ h => h) ?_
      refine T.region ?_
      refine L.ar ((k + 1 : Nat) : Int) rfl rfl rfl (by omega) rfl ?_
      refine L.mv rfl rfl ?_
      refine L.last ?_
      refine G.conv (drop_at (i := 0) rfl rfl) ?_
      refine G.round (kids.length - (k + 1)) _ (by omega) ⟨k + 1, v40, by omega, rfl, rfl, by rw [kidsAllV_take ps _ hlt, ← List.append_assoc]; simp [ints]⟩ (by repeat constructor)
    · skip
      have hge : kids.length ≤ k := by have := of_decide_eq_false h28; omega
      refine T.exit ?_
      refine T.go (fun _ _ h => h) ?_
      refine T.rg ?_
      refine L.mv rfl rfl ?_
      refine L.as rfl rfl ?_
      refine L.nil ?_
      refine T.ret ?_
      refine G.pub 4 0 rfl rfl rfl ?_
      refine G.conv (drop_at (i := 0) rfl rfl) ?_
      exact G.ret (res1 Try.results13 rfl) ⟨rfl, congrArg (fun z => aL 1 (ints z)) (by rw [List.take_of_length_le hge, allV])⟩
  · skip
    refine T.rg ?_
    refine L.mv rfl rfl ?_
    refine L.mv rfl rfl ?_
    refine L.call e28 rfl rfl (f28 ps.length ps rfl hps (u ++ [(Tr.mk id kind tag text cl at' st kids)]) (by simp; omega) hok) ?_
    rintro _ _ ⟨rfl, rfl⟩
    rw [hrev]
    refine L.nil ?_
    refine T.cond rfl (fun h18 => ?_) (fun h18 => ?_)
    · skip
      refine T.region ?_
      refine L.mv rfl rfl ?_
      refine L.fa Try.underlying57 rfl s3 rfl rfl ?_
      refine L.ld 1 o3 rfl rfl rfl rfl ?_
      refine L.bsD rfl Try.underlying52 i3 rfl rfl rfl rfl rfl ?_
      refine L.app 0 Try.underlying52 i3 rfl rfl rfl rfl rfl (by simp) (by simp) rfl (fun _ => rfl) fun v23 => ?_
      refine L.as rfl rfl ?_
      refine L.last ?_
      exact G.cut [(6, aR v23), (5, aP b5 0), (1, aL 4 (sel ps)), (0, aL 8 (kidsD (u ++ [(Tr.mk id kind tag text cl at' st kids)])))] ⟨_, rfl, by rw [if_pos h18]; rfl⟩ (by repeat constructor)
    · skip
      refine T.skip ?_
      exact G.cut [(6, aR (slV b15 0 0 0)), (5, aP b5 0), (1, aL 4 (sel ps)), (0, aL 8 (kidsD (u ++ [(Tr.mk id kind tag text cl at' st kids)])))] ⟨_, rfl, by rw [if_neg (by rw [h18]; decide)]; rfl⟩ (by repeat constructor)

theorem f13 (ps : List SPart) (hps : ps.length ≤ 500) : ∀ (n : Nat) (t : Tr), t.size ≤ n → ∀ u : List Tr, u.length + t.size ≤ 900 → kidsOk u → t.ok →
    Fc Try.prog 13 [L_ 8 (kidsD (u ++ [t])), L_ 4 (sel ps)] [] (Just (aL 1 (ints (allV ps t u.reverse))))
  | 0, .mk _ _ _ _ _ _ _ kids, hn, _, _, _, _ => by simp [Tr.size] at hn
  | n + 1, .mk id kind tag text cl at' st kids, hn, u, hsz, hu, hok =>
    f13s ps hps id kind tag text cl at' st kids u hsz (kidsOk_all.2 fun x hx => by
      rcases List.mem_append.1 hx with h | h
      · exact kidsOk_all.1 hu x h
      · obtain rfl := List.mem_singleton.1 h; exact hok) fun k h => by
      have hks := kidsSize_get h
      have hrec := f13 ps hps n kids[k] (by simp only [Tr.size] at hn; omega) (u ++ [.mk id kind tag text cl at' st kids]) (by simp only [Tr.size, List.length_append, List.length_cons, List.length_nil] at hsz ⊢; omega) (kidsOk_all.2 fun x hx => by
        rcases List.mem_append.1 hx with h | h
        · exact kidsOk_all.1 hu x h
        · obtain rfl := List.mem_singleton.1 h; exact hok) (kidsOk_get hok.2.2 h)
      rw [kidsD_append _ [kids[k]], List.reverse_append] at hrec
      exact hrec
end Go.Proofs.Ytlibfaghiogekaa
