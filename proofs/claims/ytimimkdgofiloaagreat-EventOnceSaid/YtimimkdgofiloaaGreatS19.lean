/- Trees out of views; and told anew. Printed by gen.py. -/
import Derived.Test.YtimimkdgofiloaaGreatS18
import Derived.Test.YtimimkdgofiloaaGreatS12
import Derived.Test.YtimimkdgofiloaaGreatDl
namespace Go.Proofs.YtimimkdgofiloaaGreat
open Go Go.Q
abbrev zero31 : List CV := [.d (.i .i64 0), .d (.i .i64 0), .d (.s ⟨#[]⟩), .d (.s ⟨#[]⟩), .r nilV, .r nilV, .r nilV, .r nilV]
theorem kidsD_snoc (l : List Tr) (t : Tr) : kidsD (l ++ [t]) = kidsD l ++ [t.d] := by simp [kidsD_map]
theorem kidsSize_append : ∀ l m : List Tr, kidsSize (l ++ m) = kidsSize l + kidsSize m
  | [], m => by simp [kidsSize]
  | t :: l, m => by simp [kidsSize, kidsSize_append l m]; omega
theorem ndsSize_take {l : List Nd} {k : Nat} (h : k < l.length) : ndsSize (l.take (k + 1)) = ndsSize (l.take k) + l[k].size := by
  rw [List.take_add_one, List.getElem?_eq_getElem h, ndsSize_append]; rfl
set_option maxHeartbeats 8000000 in
theorem f5s (kind : Int) (tag key text : ByteArray) (cl : List ByteArray) (at' : List (ByteArray × ByteArray)) (st : List (ByteArray × Int)) (op : Op6) (kids : List Nd) (hcl : cl.length ≤ 4) (hat : at'.length ≤ 4) (hst : st.length ≤ 4) (hsz : ndsSize kids ≤ 1000) (next : Int) (hn0 : 0 ≤ next) (hn1 : next + ndsSize kids ≤ 1000000) (ih : ∀ (k : Nat) (h : k < kids.length) (next : Int), 0 ≤ next → next + kids[k].size ≤ 1000001 → Fc Tryz.prog 5 [.g kids[k].cs, N_ next] [] (fun x Ω => Ω = [] ∧ ∃ t : Tr, x = .t [.g t.cs, N_ (next + (t.size : Int))] ∧ t.ok ∧ t.size = kids[k].size ∧ t.small ∧ t.seq next)) : Fc Tryz.prog 5 [.g (ndC kind tag key text cl at' st op (ndsD kids)), N_ next] [] (fun x Ω => Ω = [] ∧ ∃ t : Tr, x = .t [.g t.cs, N_ (next + (t.size : Int))] ∧ t.ok ∧ t.size = (Nd.mk kind tag key text cl at' st op kids).size ∧ t.small ∧ t.seq next) := by
  refine Fc.enter Tryz.func5 rfl Tryz.ntmps5 rfl fun X w => ?_
  refine T.rg ?_
  refine L.box rfl rfl fun b2 => ?_
  refine L.alloc z32 rfl rfl fun b4 => ?_
  refine L.as rfl rfl ?_
  refine L.nil ?_
  refine T.of_seq ?_
  refine T.drawC 18 [(2, aP b2 0), (4, aP b4 0), (1, aN next)] [.blk b4 32 zero31, .blk b2 41 (ndC kind tag key text cl at' st op (ndsD kids))] (fun _ => []) [] (fun n x _ post => match n with
    | 0 => x = aN next ∧ post = []
    | 1 => x = aP b2 0 ∧ post = []
    | 2 => x = aD (.i .i64 kind) ∧ post = []
    | 3 => x = aN (if (2 : Int) < kind then 2 else kind) ∧ post = []
    | 4 => x = aP b2 1 ∧ post = []
    | 5 => x = aD (.s tag) ∧ post = []
    | 6 => x = aP b2 3 ∧ post = []
    | 7 => x = aD (.s text) ∧ post = []
    | 8 => ∃ g, x = aR (.slice (some ⟨g, 0, none⟩) 0 0) ∧ post = []
    | 9 => x = aP b2 4 ∧ post = []
    | 10 => x = aD (.l 1 (strs cl)) ∧ post = []
    | 11 => x = aL 1 (strs cl) ∧ post = []
    | 12 => x = aP b2 6 ∧ post = []
    | 13 => x = aD (.l 2 (prs st)) ∧ post = []
    | 14 => x = aL 2 (prs st) ∧ post = []
    | 15 => x = aL 2 (prs (ofM st)) ∧ post = []
    | 16 => x = .v (.g [.d (.i .i64 next), .d (.i .i64 (if (2 : Int) < kind then 2 else kind)), .d (.s tag), .d (.s text), .d (.l 1 (strs cl)), .r nilV, .d (.l 2 (prs (ofM st))), .r nilV]) ∧ post = []
    | 17 => ∃ b6, x = aP b6 0 ∧ post = [.blk b6 32 zero31]
    | _ => False) hmixed rfl rfl rfl (by repeat constructor) (List.Perm.refl _) rfl ⟨?_, ?_, ?_, ?_, ?_, ?_, ?_, ?_, ?_, ?_, ?_, ?_, ?_, ?_, ?_, ?_, ?_, ?_, trivial⟩ ?_
  · intro X posts σ' Ωf hsb hA
    refine L.mv (hsb.get rfl) rfl ?_
    exact L.last (G.fin [] ⟨rfl, rfl⟩ rfl)
  · intro X posts σ' Ωf hsb hA
    refine L.fa Tryz.underlying41 rfl s3 (hsb.get rfl) rfl ?_
    exact L.last (G.fin [] ⟨rfl, rfl⟩ rfl)
  · intro X posts σ' Ωf hsb hA
    have hx1 := (hA 1 rfl).2.1
    have l14 : σ'.lookup 14 = some (aP b2 0) := (hA 1 rfl).1.trans (congrArg some hx1)
    refine L.ld 1 o3 l14 rfl rfl rfl ?_
    exact L.last (G.fin [] ⟨rfl, rfl⟩ rfl)
  · intro X posts σ' Ωf hsb hA
    have hx2 := (hA 2 rfl).2.1
    have l15 : σ'.lookup 15 = some (aD (.i .i64 kind)) := (hA 2 rfl).1.trans (congrArg some hx2)
    refine L.min2 (y := .const (.int .i64 2)) l15 rfl rfl ?_
    exact L.last (G.fin [] ⟨rfl, rfl⟩ rfl)
  · intro X posts σ' Ωf hsb hA
    refine L.fa Tryz.underlying41 rfl s9 (hsb.get rfl) rfl ?_
    exact L.last (G.fin [] ⟨rfl, rfl⟩ rfl)
  · intro X posts σ' Ωf hsb hA
    have hx4 := (hA 4 rfl).2.1
    have l17 : σ'.lookup 17 = some (aP b2 1) := (hA 4 rfl).1.trans (congrArg some hx4)
    refine L.ld 1 o9 l17 rfl rfl rfl ?_
    exact L.last (G.fin [] ⟨rfl, rfl⟩ rfl)
  · intro X posts σ' Ωf hsb hA
    refine L.fa Tryz.underlying41 rfl s9 (hsb.get rfl) rfl ?_
    exact L.last (G.fin [] ⟨rfl, rfl⟩ rfl)
  · intro X posts σ' Ωf hsb hA
    have hx6 := (hA 6 rfl).2.1
    have l19 : σ'.lookup 19 = some (aP b2 3) := (hA 6 rfl).1.trans (congrArg some hx6)
    refine L.ld 1 o9 l19 rfl rfl rfl ?_
    exact L.last (G.fin [] ⟨rfl, rfl⟩ rfl)
  · intro X posts σ' Ωf hsb hA
    refine L.bs0 Tryz.underlying25 i9 rfl rfl fun g => ?_
    exact L.last (G.fin [] ⟨g, rfl, rfl⟩ rfl)
  · intro X posts σ' Ωf hsb hA
    refine L.fa Tryz.underlying41 rfl s25 (hsb.get rfl) rfl ?_
    exact L.last (G.fin [] ⟨rfl, rfl⟩ rfl)
  · intro X posts σ' Ωf hsb hA
    have hx9 := (hA 9 rfl).2.1
    have l22 : σ'.lookup 22 = some (aP b2 4) := (hA 9 rfl).1.trans (congrArg some hx9)
    refine L.ld 1 o25 l22 rfl rfl rfl ?_
    exact L.last (G.fin [] ⟨rfl, rfl⟩ rfl)
  · intro X posts σ' Ωf hsb hA
    obtain ⟨g, hx8, hp8⟩ := (hA 8 rfl).2
    have l21 : σ'.lookup 21 = some (aR (.slice (some ⟨g, 0, none⟩) 0 0)) := (hA 8 rfl).1.trans (congrArg some hx8)
    have hx10 := (hA 10 rfl).2.1
    have l23 : σ'.lookup 23 = some (aD (.l 1 (strs cl))) := (hA 10 rfl).1.trans (congrArg some hx10)
    refine L.apD Tryz.underlying25 i9 rfl l21 l23 (by simp; omega) (by simp; omega) rfl ?_
    exact L.last (G.fin [] ⟨rfl, rfl⟩ rfl)
  · intro X posts σ' Ωf hsb hA
    refine L.fa Tryz.underlying41 rfl s36 (hsb.get rfl) rfl ?_
    exact L.last (G.fin [] ⟨rfl, rfl⟩ rfl)
  · intro X posts σ' Ωf hsb hA
    have hx12 := (hA 12 rfl).2.1
    have l25 : σ'.lookup 25 = some (aP b2 6) := (hA 12 rfl).1.trans (congrArg some hx12)
    refine L.ld 1 o36 l25 rfl rfl rfl ?_
    exact L.last (G.fin [] ⟨rfl, rfl⟩ rfl)
  · intro X posts σ' Ωf hsb hA
    have hx13 := (hA 13 rfl).2.1
    have l26 : σ'.lookup 26 = some (aD (.l 2 (prs st))) := (hA 13 rfl).1.trans (congrArg some hx13)
    refine L.call e15 (evs1t l26) rfl (f15 st (by omega)) ?_
    rintro _ _ ⟨rfl, rfl⟩
    exact L.last (G.fin [] ⟨rfl, rfl⟩ rfl)
  · intro X posts σ' Ωf hsb hA
    have hx14 := (hA 14 rfl).2.1
    have l27 : σ'.lookup 27 = some (aL 2 (prs st)) := (hA 14 rfl).1.trans (congrArg some hx14)
    refine L.call e14 (evs1t l27) rfl (f14 st (by omega)) ?_
    rintro _ _ ⟨v, rfl, hM⟩
    refine L.pubM (es := prs (ofM st)) 28 rfl (by rw [prs_len]; exact hM) (flat_prs _) ?_
    exact fun a w hs ha => L.last (G.fin [] ⟨rfl, rfl⟩ rfl) a w hs ha.two
  · intro X posts σ' Ωf hsb hA
    have hx0 := (hA 0 rfl).2.1
    have l13 : σ'.lookup 13 = some (aN next) := (hA 0 rfl).1.trans (congrArg some hx0)
    have hx3 := (hA 3 rfl).2.1
    have l16 : σ'.lookup 16 = some (aN (if (2 : Int) < kind then 2 else kind)) := (hA 3 rfl).1.trans (congrArg some hx3)
    have hx5 := (hA 5 rfl).2.1
    have l18 : σ'.lookup 18 = some (aD (.s tag)) := (hA 5 rfl).1.trans (congrArg some hx5)
    have hx7 := (hA 7 rfl).2.1
    have l20 : σ'.lookup 20 = some (aD (.s text)) := (hA 7 rfl).1.trans (congrArg some hx7)
    have hx11 := (hA 11 rfl).2.1
    have l24 : σ'.lookup 24 = some (aL 1 (strs cl)) := (hA 11 rfl).1.trans (congrArg some hx11)
    have hx15 := (hA 15 rfl).2.1
    have l28 : σ'.lookup 28 = some (aL 2 (prs (ofM st))) := (hA 15 rfl).1.trans (congrArg some hx15)
    refine L.bld p32 z32 rfl rfl (evpC l13 (evpC l16 (evpC l18 (evpC l20 (evpC l24 (evpC l28 evpN)))))) rfl rfl ?_
    exact L.last (G.fin [] ⟨rfl, rfl⟩ rfl)
  · intro X posts σ' Ωf hsb hA
    refine L.alloc z32 rfl rfl fun b6 => ?_
    exact L.last (G.fin [_] ⟨b6, rfl, rfl⟩ rfl)
  intro X posts hR
  obtain ⟨hx0, hp0⟩ : X 0 = aN next ∧ posts 0 = [] := hR 0 rfl
  obtain ⟨hx1, hp1⟩ : X 1 = aP b2 0 ∧ posts 1 = [] := hR 1 rfl
  obtain ⟨hx2, hp2⟩ : X 2 = aD (.i .i64 kind) ∧ posts 2 = [] := hR 2 rfl
  obtain ⟨hx3, hp3⟩ : X 3 = aN (if (2 : Int) < kind then 2 else kind) ∧ posts 3 = [] := hR 3 rfl
  obtain ⟨hx4, hp4⟩ : X 4 = aP b2 1 ∧ posts 4 = [] := hR 4 rfl
  obtain ⟨hx5, hp5⟩ : X 5 = aD (.s tag) ∧ posts 5 = [] := hR 5 rfl
  obtain ⟨hx6, hp6⟩ : X 6 = aP b2 3 ∧ posts 6 = [] := hR 6 rfl
  obtain ⟨hx7, hp7⟩ : X 7 = aD (.s text) ∧ posts 7 = [] := hR 7 rfl
  obtain ⟨g, hx8, hp8⟩ : ∃ g, X 8 = aR (.slice (some ⟨g, 0, none⟩) 0 0) ∧ posts 8 = [] := hR 8 rfl
  obtain ⟨hx9, hp9⟩ : X 9 = aP b2 4 ∧ posts 9 = [] := hR 9 rfl
  obtain ⟨hx10, hp10⟩ : X 10 = aD (.l 1 (strs cl)) ∧ posts 10 = [] := hR 10 rfl
  obtain ⟨hx11, hp11⟩ : X 11 = aL 1 (strs cl) ∧ posts 11 = [] := hR 11 rfl
  obtain ⟨hx12, hp12⟩ : X 12 = aP b2 6 ∧ posts 12 = [] := hR 12 rfl
  obtain ⟨hx13, hp13⟩ : X 13 = aD (.l 2 (prs st)) ∧ posts 13 = [] := hR 13 rfl
  obtain ⟨hx14, hp14⟩ : X 14 = aL 2 (prs st) ∧ posts 14 = [] := hR 14 rfl
  obtain ⟨hx15, hp15⟩ : X 15 = aL 2 (prs (ofM st)) ∧ posts 15 = [] := hR 15 rfl
  obtain ⟨hx16, hp16⟩ : X 16 = .v (.g [.d (.i .i64 next), .d (.i .i64 (if (2 : Int) < kind then 2 else kind)), .d (.s tag), .d (.s text), .d (.l 1 (strs cl)), .r nilV, .d (.l 2 (prs (ofM st))), .r nilV]) ∧ posts 16 = [] := hR 16 rfl
  obtain ⟨b6, hx17, hp17⟩ : ∃ b6, X 17 = aP b6 0 ∧ posts 17 = [.blk b6 32 zero31] := hR 17 rfl
  have hpp : (List.range 18).flatMap (leftC 18 (fun i => ([] : List (Option Nat)).getD i none) posts) = [.blk b6 32 zero31] := by
    show posts 0 ++ (posts 1 ++ (posts 2 ++ (posts 3 ++ (posts 4 ++ (posts 5 ++ (posts 6 ++ (posts 7 ++ (posts 8 ++ (posts 9 ++ (posts 10 ++ (posts 11 ++ (posts 12 ++ (posts 13 ++ (posts 14 ++ (posts 15 ++ (posts 16 ++ (posts 17 ++ []))))))))))))))))) = _
    simp only [hp0, hp1, hp2, hp3, hp4, hp5, hp6, hp7, hp8, hp9, hp10, hp11, hp12, hp13, hp14, hp15, hp16, hp17, List.nil_append, List.append_nil]
  rw [hpp]
  refine L.sub (σ' := [(29, .v (.g [.d (.i .i64 next), .d (.i .i64 (if (2 : Int) < kind then 2 else kind)), .d (.s tag), .d (.s text), .d (.l 1 (strs cl)), .r nilV, .d (.l 2 (prs (ofM st))), .r nilV])), (6, aP b6 0), (2, aP b2 0), (4, aP b4 0), (1, aN next)]) ⟨congrArg some hx16, congrArg some hx17, rfl, rfl, rfl, trivial⟩ ?_
  refine L.stog 0 s32 rfl rfl rfl rfl rfl rfl ?_
  refine L.last ?_
  refine T.go (fun _ _ h => h) ?_
  refine T.of_seq ?_
  refine T.rg ?_
  refine L.fa Tryz.underlying41 rfl s35 rfl rfl ?_
  refine L.ld 2 o35 rfl rfl rfl rfl ?_
  refine L.lenL Tryz.underlying35 rfl rfl fun hl32 => ?_
  refine L.mv rfl rfl ?_
  refine L.nil ?_
  refine T.block ?_
  refine T.conv (nil_row 115 2) ?_
  refine T.conv (cell_pub (j := 1) (o := 5) (i := 0) (sz := 2) rfl rfl rfl rfl rfl rfl) ?_
  refine T.loop (fun m σ Ω => ∃ (k : Nat) (at2 : List (ByteArray × ByteArray)), k ≤ at'.length ∧ m = at'.length - k ∧ Srt at2 ∧ at2.length ≤ k ∧ σ = [(33, aN k), (32, aN (ats at').length), (31, aL 2 (ats at')), (1, aN next), (6, aP b6 0), (4, aP b4 0), (2, aP b2 0)] ∧ Ω = [.blk b6 32 [.d (.i .i64 next), .d (.i .i64 (if (2 : Int) < kind then 2 else kind)), .d (.s tag), .d (.s text), .d (.l 1 (strs cl)), .d (.l 2 (ats at2)), .d (.l 2 (prs (ofM st))), .r nilV], .blk b4 32 zero31, .blk b2 41 (ndC kind tag key text cl at' st op (ndsD kids))]) (at'.length) _ (⟨0, [], Nat.zero_le _, rfl, List.Pairwise.nil, Nat.le_refl _, rfl, rfl⟩) (by repeat constructor) ?_
  rintro m σ Ω ⟨k, at2, hk, rfl, hsrt, hal, rfl, rfl⟩
  have hlen := ats_len at'
  refine T.rg ?_
  refine L.cmp rfl rfl rfl rfl ?_
  refine L.nil ?_
  refine T.of_seq ?_
  refine T.cond rfl (fun h34 => ?_) (fun h34 => ?_)
  · skip
    have hlt : k < at'.length := by have := of_decide_eq_true h34; omega
    refine T.skip ?_
    refine T.go (fun _ _ h => h) ?_
    refine T.of_seq ?_
    refine T.block ?_
    refine T.rg ?_
    refine L.ixL k _ Tryz.underlying35 s68 rfl rfl rfl (ats_get hlt) rfl ?_
    refine L.lig a68 s68 rfl rfl rfl rfl ?_
    refine L.alloc z68 rfl rfl fun b8 => ?_
    refine L.stog 0 s68 rfl rfl rfl rfl rfl rfl ?_
    refine L.nil ?_
    refine T.region ?_
    refine L.fa Tryz.underlying32 rfl s27 rfl rfl ?_
    refine L.ld 1 o27 rfl rfl rfl rfl ?_
    refine L.fa Tryz.underlying68 rfl s9 rfl rfl ?_
    refine L.ld 0 o9 rfl rfl rfl rfl ?_
    refine L.fa Tryz.underlying68 rfl s9 rfl rfl ?_
    refine L.ld 0 o9 rfl rfl rfl rfl ?_
    refine L.call e16 rfl rfl (f16 at2 (by omega) at'[k].1 at'[k].2) ?_
    rintro _ _ ⟨v2, rfl, hM⟩
    rw [ofM_same hsrt] at hM
    refine L.pubM (es := ats (putM at2 (at'[k].1, at'[k].2))) 43 rfl (by rw [ats_len]; exact hM) (flat_ats _) ?_
    refine L.fa Tryz.underlying32 rfl s27 rfl rfl ?_
    refine L.sto 1 s27 rfl rfl rfl rfl rfl ?_
    refine L.last ?_
    refine T.go (fun _ _ h => h) ?_
    refine T.region ?_
    refine L.ar ((k + 1 : Nat) : Int) rfl rfl rfl (by omega) rfl ?_
    refine L.mv rfl rfl ?_
    refine L.last ?_
    have hpl := putM_len at2 (at'[k].1, at'[k].2)
    refine G.conv (drop_at (i := 0) rfl rfl) ?_
    refine G.round (at'.length - (k + 1)) _ (by omega) ⟨k + 1, putM at2 (at'[k].1, at'[k].2), by omega, rfl, putM_srt hsrt, by omega, rfl, rfl⟩ (by repeat constructor)
  · skip
    have hge : at'.length ≤ k := by have := of_decide_eq_false h34; omega
    refine T.exit ?_
    refine T.go (fun _ _ h => h) ?_
    refine T.rg ?_
    refine L.mv rfl rfl ?_
    refine L.ar (next + 1) rfl rfl rfl (by omega) rfl ?_
    refine L.as rfl rfl ?_
    refine L.nil ?_
    refine T.of_seq ?_
    refine T.rg ?_
    refine L.fa Tryz.underlying41 rfl s39 rfl rfl ?_
    refine L.ld 2 o39 rfl rfl rfl rfl ?_
    refine L.lenL Tryz.underlying39 rfl rfl fun hl50 => ?_
    refine L.mv rfl rfl ?_
    refine L.nil ?_
    refine T.block ?_
    refine T.conv (nil_row 32 8) ?_
    refine T.loop (fun m σ Ω => ∃ (k : Nat) (ts : List Tr) (v : Value), k ≤ kids.length ∧ m = kids.length - k ∧ ts.length = k ∧ kidsSize ts = ndsSize (kids.take k) ∧ kidsOk ts ∧ kidsSmall ts ∧ kidsSeq ts (next + 1) ∧ σ = [(51, aN k), (50, aN (ndsD kids).length), (49, aL 14 (ndsD kids)), (1, aN (next + 1 + (kidsSize ts : Int))), (6, aP b6 0), (4, aP b4 0), (2, aP b2 0)] ∧ Ω = [.row v 32 8 (kidsD ts), .blk b6 32 [.d (.i .i64 next), .d (.i .i64 (if (2 : Int) < kind then 2 else kind)), .d (.s tag), .d (.s text), .d (.l 1 (strs cl)), .d (.l 2 (ats at2)), .d (.l 2 (prs (ofM st))), .r v], .blk b4 32 zero31, .blk b2 41 (ndC kind tag key text cl at' st op (ndsD kids))]) (kids.length) _ (⟨0, [], _, Nat.zero_le _, rfl, rfl, rfl, trivial, trivial, trivial, rfl, rfl⟩) (⟨rfl, rfl, rfl, congrArg (fun z => some (aN z)) (by simp [kidsSize]), rfl, rfl, rfl, trivial⟩) ?_
    rintro m σ Ω ⟨k, ts, v, hk, rfl, htl, hts, htok, htsm, htsq, rfl, rfl⟩
    have hlen := ndsD_len kids
    have hnl := ndsSize_len kids
    refine T.rg ?_
    refine L.cmp rfl rfl rfl rfl ?_
    refine L.nil ?_
    refine T.of_seq ?_
    refine T.cond rfl (fun h52 => ?_) (fun h52 => ?_)
    · skip
      have hlt : k < kids.length := by have := of_decide_eq_true h52; omega
      have hks := ndsSize_get hlt
      refine T.skip ?_
      refine T.go (fun _ _ h => h) ?_
      refine T.of_seq ?_
      refine T.block ?_
      refine T.rg ?_
      refine L.ixL k _ Tryz.underlying39 s41 rfl rfl rfl (ndsD_get hlt) rfl ?_
      refine L.lig (ys := kids[k].d) a41 s41 rfl (List.take_of_length_le (by rw [Nd.d_len]; exact Nat.le_refl _)) (Nd.d_len _) rfl ?_
      rw [← Nd.cs_d]
      refine L.alloc z41 rfl rfl fun b10 => ?_
      refine L.stog 0 s41 rfl rfl rfl rfl (by rw [Nd.cs_len]; rfl) rfl ?_
      refine L.nil ?_
      refine T.rg ?_
      refine L.ldg (ys := kids[k].cs) 0 a41 s41 rfl rfl (by rw [List.drop_zero]; exact List.take_of_length_le (by rw [Nd.cs_len]; exact Nat.le_refl _)) (Nd.cs_len _) rfl ?_
      refine L.mv rfl rfl ?_
      refine L.call e5 rfl rfl (ih k hlt (next + 1 + (kidsSize ts : Int)) (by omega) (by omega)) ?_
      rintro _ _ ⟨rfl, t, rfl, hok, htsz, hsm, hsq⟩
      refine L.mv rfl rfl ?_
      refine L.ex rfl rfl rfl ?_
      refine L.ex rfl rfl rfl ?_
      refine L.alloc z32 rfl rfl fun b11 => ?_
      refine L.stog 0 s32 rfl rfl rfl rfl (by rw [Tr.cs_d, List.length_map, Tr.d_len]; rfl) rfl ?_
      refine L.as rfl rfl ?_
      refine L.nil ?_
      refine T.rg ?_
      refine L.fa Tryz.underlying32 rfl s30 rfl rfl ?_
      refine L.ld 3 o30 rfl rfl rfl rfl ?_
      refine L.ldg (ys := t.cs) 0 a32 s32 rfl rfl (by rw [List.drop_zero]; exact List.take_of_length_le (by rw [Tr.cs_d, List.length_map, Tr.d_len]; exact Nat.le_refl _)) (by rw [Tr.cs_d, List.length_map, Tr.d_len]) rfl ?_
      refine L.bsD rfl Tryz.underlying30 i32 rfl rfl rfl (elsC_d _) rfl ?_
      refine L.app 2 Tryz.underlying30 i32 rfl rfl rfl rfl rfl (by simp [kidsD_len]; omega) (by simp [kidsD_len]; omega) rfl (fun _ => rfl) fun v65 => ?_
      refine L.fa Tryz.underlying32 rfl s30 rfl rfl ?_
      refine L.sto 3 s30 rfl rfl rfl rfl rfl ?_
      refine L.nil ?_
      refine T.region ?_
      refine L.mv rfl rfl ?_
      refine L.as rfl rfl ?_
      refine L.last ?_
      refine T.go (fun _ _ h => h) ?_
      refine T.region ?_
      refine L.ar ((k + 1 : Nat) : Int) rfl rfl rfl (by omega) rfl ?_
      refine L.mv rfl rfl ?_
      refine L.last ?_
      refine G.conv (drop_at (i := 0) rfl rfl) ?_
      refine G.conv (drop_at (i := 0) rfl rfl) ?_
      have hadd : kidsSize (ts ++ [t]) = kidsSize ts + t.size := by rw [kidsSize_append]; rfl
      refine G.round (kids.length - (k + 1)) [(51, aN ((k + 1 : Nat) : Int)), (50, aN (ndsD kids).length), (49, aL 14 (ndsD kids)), (1, aN (next + 1 + (kidsSize (ts ++ [t]) : Int))), (6, aP b6 0), (4, aP b4 0), (2, aP b2 0)] (by omega) ⟨k + 1, ts ++ [t], v65, by omega, rfl, by simp [htl], by rw [ndsSize_take hlt, hadd]; omega, kidsOk_all.2 fun x hx => ?_, kidsSmall_all.2 fun x hx => ?_, kidsSeq_snoc htsq hsq, rfl, by rw [kidsD_snoc]⟩ ⟨rfl, rfl, rfl, congrArg (fun z => some (aN z)) (by rw [hadd]; omega), rfl, rfl, rfl, trivial⟩
      · rcases List.mem_append.1 hx with h | h
        · exact kidsOk_all.1 htok x h
        · obtain rfl := List.mem_singleton.1 h; exact hok
      · rcases List.mem_append.1 hx with h | h
        · exact kidsSmall_all.1 htsm x h
        · obtain rfl := List.mem_singleton.1 h; exact hsm
    · skip
      have hge : kids.length ≤ k := by have := of_decide_eq_false h52; omega
      refine T.exit ?_
      refine T.go (fun _ _ h => h) ?_
      refine T.rg ?_
      refine L.conv (cell_pub (j := 1) (o := 7) (i := 0) (sz := 8) rfl rfl rfl rfl rfl rfl) ?_
      refine L.ldg 0 a32 s32 rfl rfl rfl rfl rfl ?_
      refine L.mv rfl rfl ?_
      refine L.stog 1 s32 rfl rfl rfl rfl rfl rfl ?_
      refine L.as rfl rfl ?_
      refine L.nil ?_
      refine T.ret ?_
      refine G.retW (fun w hs => (let h1 := drop_at (i := 0) rfl rfl w hs; let h2 := drop_at (i := 0) rfl rfl w h1.1; let h3 := drop_at (i := 0) rfl rfl w h2.1; ⟨h3.1, h1.2.trans (h2.2.trans (h3.2))⟩)) (resCT (i := 1) Tryz.results5 rfl a32 s32 rfl rfl rfl) ?_
      refine ⟨rfl, .mk next (if (2 : Int) < kind then 2 else kind) tag text cl at2 (ofM st) ts, ?_, ⟨hsrt, by omega, htok⟩, ?_, ⟨by omega, by omega, by have := ofM_len st; omega, htsm⟩, rfl, htsq⟩
      · have hk : kids.take k = kids := List.take_of_length_le hge
        refine congrArg (fun z => AV.t [_, N_ z]) ?_
        simp only [Tr.size]; omega
      · have hk : kids.take k = kids := List.take_of_length_le hge
        rw [hk] at hts
        simp only [Tr.size, Nd.size, hts]

theorem f5 : ∀ (n : Nat) (t : Nd), t.size ≤ n → n ≤ 1000 → t.few → ∀ next : Int, 0 ≤ next → next + t.size ≤ 1000001 → Fc Tryz.prog 5 [.g t.cs, N_ next] [] (fun x Ω => Ω = [] ∧ ∃ u : Tr, x = .t [.g u.cs, N_ (next + (u.size : Int))] ∧ u.ok ∧ u.size = t.size ∧ u.small ∧ u.seq next)
  | 0, t, hn, _, _ => by have := t.size_pos; omega
  | n + 1, .mk kind tag key text cl at' st op kids, hn, hn2, hf => fun next h0 h1 => by
    simp only [Nd.size] at hn h1
    exact f5s kind tag key text cl at' st op kids hf.1 hf.2.1 hf.2.2.1 (by omega) next h0 (by omega) fun k h next h0 h1 =>
      f5 n kids[k] (by have := ndsSize_get h; omega) (by omega) (ndsFew_all.1 hf.2.2.2 _ (List.getElem_mem h)) next h0 h1

abbrev zero57 : List CV := zero31
theorem strs_take (l : List ByteArray) (k : Nat) : (strs l).take k = strs (l.take k) := by simp [strs, List.map_take]
theorem ats_take1 {l : List (ByteArray × ByteArray)} {k : Nat} (h : k < l.length) : ats (l.take (k + 1)) = ats (l.take k) ++ [[D.s l[k].1, D.s l[k].2]] := by
  rw [List.take_add_one, List.getElem?_eq_getElem h]; exact ats_snoc _ _
theorem prs_take1 {l : List (ByteArray × Int)} {k : Nat} (h : k < l.length) : prs (l.take (k + 1)) = prs (l.take k) ++ [[D.s l[k].1, D.i .i64 l[k].2]] := by
  rw [List.take_add_one, List.getElem?_eq_getElem h]; exact prs_snoc _ _
theorem kidsD_take1 {l : List Tr} {k : Nat} (h : k < l.length) : kidsD (l.take (k + 1)) = kidsD (l.take k) ++ [l[k].d] := by
  rw [List.take_add_one, List.getElem?_eq_getElem h]; exact kidsD_snoc _ _
end Go.Proofs.YtimimkdgofiloaaGreat
