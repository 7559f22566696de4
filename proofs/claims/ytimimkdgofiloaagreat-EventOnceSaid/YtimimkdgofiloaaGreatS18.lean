/- Views, out of flat nodes. Printed by gen.py. -/
import Derived.Test.YtimimkdgofiloaaGreatQr
import Derived.Test.YtimimkdgofiloaaGreatS13
import Derived.Test.YtimimkdgofiloaaGreatS2
import Derived.Test.YtimimkdgofiloaaGreatDi
namespace Go.Proofs.YtimimkdgofiloaaGreat
open Go Go.Q
abbrev nilV : Value := .slice none 0 0
abbrev zero40 : List CV := [.d (.i .i64 0), .d (.s ⟨#[]⟩), .d (.s ⟨#[]⟩), .d (.s ⟨#[]⟩), .r nilV, .r nilV, .r nilV, .d (.i .i64 0), .d (.i .i64 0), .d (.i .i64 0), .d (.i .i64 0), .d (.b false), .d (.b false), .r nilV]

set_option maxHeartbeats 4000000 in
theorem f17 (f : FlatV) : Fc Tryz.prog 17 [.g f.cs] [] (Just (.v (.g f.node.cs))) := by
  refine Fc.enter Tryz.func17 rfl Tryz.ntmps17 rfl fun X w => ?_
  refine T.rg ?_
  refine L.box rfl rfl fun b1 => ?_
  refine L.alloc z41 rfl rfl fun b2 => ?_
  refine L.nil ?_
  refine T.of_seq ?_
  refine T.drawC 21 [(2, aP b2 0), (1, aP b1 0)] [.blk b2 41 zero40, .blk b1 71 f.cs] (fun _ => []) [] (fun n x _ post => match n with
    | 0 => x = aP b1 1 ∧ post = []
    | 1 => x = aD (.i .i64 f.kind) ∧ post = []
    | 2 => x = aP b1 2 ∧ post = []
    | 3 => x = aD (.s f.tag) ∧ post = []
    | 4 => x = aS (f.tag.extract 0 20) ∧ post = []
    | 5 => x = aP b1 3 ∧ post = []
    | 6 => x = aD (.s f.key) ∧ post = []
    | 7 => x = aS (f.key.extract 0 20) ∧ post = []
    | 8 => x = aP b1 4 ∧ post = []
    | 9 => x = aD (.s f.text) ∧ post = []
    | 10 => x = aS (f.text.extract 0 70) ∧ post = []
    | 11 => x = aP b1 5 ∧ post = []
    | 12 => x = aD (.l 1 (strs f.cl)) ∧ post = []
    | 13 => x = aL 1 (strs (few f.cl 4)) ∧ post = []
    | 14 => x = aP b1 7 ∧ post = []
    | 15 => x = aD (.l 2 (prs f.st)) ∧ post = []
    | 16 => x = aL 2 (prs (fewP f.st 4)) ∧ post = []
    | 17 => x = aP b1 8 ∧ post = []
    | 18 => x = .v (.g [.d (.i .i64 f.op.a), .d (.i .i64 f.op.b), .d (.i .i64 f.op.c), .d (.i .i64 f.op.d), .d (.b f.op.e), .d (.b f.op.f)]) ∧ post = []
    | 19 => x = .v (.g [.d (.i .i64 f.kind), .d (.s (f.tag.extract 0 20)), .d (.s (f.key.extract 0 20)), .d (.s (f.text.extract 0 70)), .d (.l 1 (strs (few f.cl 4))), .r nilV, .d (.l 2 (prs (fewP f.st 4))), .d (.i .i64 f.op.a), .d (.i .i64 f.op.b), .d (.i .i64 f.op.c), .d (.i .i64 f.op.d), .d (.b f.op.e), .d (.b f.op.f), .r nilV]) ∧ post = []
    | 20 => ∃ b3, x = aP b3 0 ∧ post = [.blk b3 41 zero40]
    | _ => False) hmixed rfl rfl rfl (by repeat constructor) (List.Perm.refl _) rfl ⟨?_, ?_, ?_, ?_, ?_, ?_, ?_, ?_, ?_, ?_, ?_, ?_, ?_, ?_, ?_, ?_, ?_, ?_, ?_, ?_, ?_, trivial⟩ ?_
  · intro X posts σ' Ωf hsb hA
    refine L.fa Tryz.underlying71 rfl s3 (hsb.get rfl) rfl ?_
    exact L.last (G.fin [] ⟨rfl, rfl⟩ rfl)
  · intro X posts σ' Ωf hsb hA
    have hx0 := (hA 0 rfl).2.1
    have l5 : σ'.lookup 5 = some (aP b1 1) := (hA 0 rfl).1.trans (congrArg some hx0)
    refine L.ld 1 o3 l5 rfl rfl rfl ?_
    exact L.last (G.fin [] ⟨rfl, rfl⟩ rfl)
  · intro X posts σ' Ωf hsb hA
    refine L.fa Tryz.underlying71 rfl s9 (hsb.get rfl) rfl ?_
    exact L.last (G.fin [] ⟨rfl, rfl⟩ rfl)
  · intro X posts σ' Ωf hsb hA
    have hx2 := (hA 2 rfl).2.1
    have l7 : σ'.lookup 7 = some (aP b1 2) := (hA 2 rfl).1.trans (congrArg some hx2)
    refine L.ld 1 o9 l7 rfl rfl rfl ?_
    exact L.last (G.fin [] ⟨rfl, rfl⟩ rfl)
  · intro X posts σ' Ωf hsb hA
    have hx3 := (hA 3 rfl).2.1
    have l8 : σ'.lookup 8 = some (aD (.s f.tag)) := (hA 3 rfl).1.trans (congrArg some hx3)
    refine L.call e19 (evs1c l8 rfl) rfl (f19 _ 20 (by omega)) ?_
    rintro _ _ ⟨rfl, rfl⟩
    exact L.last (G.fin [] ⟨rfl, rfl⟩ rfl)
  · intro X posts σ' Ωf hsb hA
    refine L.fa Tryz.underlying71 rfl s9 (hsb.get rfl) rfl ?_
    exact L.last (G.fin [] ⟨rfl, rfl⟩ rfl)
  · intro X posts σ' Ωf hsb hA
    have hx5 := (hA 5 rfl).2.1
    have l10 : σ'.lookup 10 = some (aP b1 3) := (hA 5 rfl).1.trans (congrArg some hx5)
    refine L.ld 1 o9 l10 rfl rfl rfl ?_
    exact L.last (G.fin [] ⟨rfl, rfl⟩ rfl)
  · intro X posts σ' Ωf hsb hA
    have hx6 := (hA 6 rfl).2.1
    have l11 : σ'.lookup 11 = some (aD (.s f.key)) := (hA 6 rfl).1.trans (congrArg some hx6)
    refine L.call e19 (evs1c l11 rfl) rfl (f19 _ 20 (by omega)) ?_
    rintro _ _ ⟨rfl, rfl⟩
    exact L.last (G.fin [] ⟨rfl, rfl⟩ rfl)
  · intro X posts σ' Ωf hsb hA
    refine L.fa Tryz.underlying71 rfl s9 (hsb.get rfl) rfl ?_
    exact L.last (G.fin [] ⟨rfl, rfl⟩ rfl)
  · intro X posts σ' Ωf hsb hA
    have hx8 := (hA 8 rfl).2.1
    have l13 : σ'.lookup 13 = some (aP b1 4) := (hA 8 rfl).1.trans (congrArg some hx8)
    refine L.ld 1 o9 l13 rfl rfl rfl ?_
    exact L.last (G.fin [] ⟨rfl, rfl⟩ rfl)
  · intro X posts σ' Ωf hsb hA
    have hx9 := (hA 9 rfl).2.1
    have l14 : σ'.lookup 14 = some (aD (.s f.text)) := (hA 9 rfl).1.trans (congrArg some hx9)
    refine L.call e19 (evs1c l14 rfl) rfl (f19 _ 70 (by omega)) ?_
    rintro _ _ ⟨rfl, rfl⟩
    exact L.last (G.fin [] ⟨rfl, rfl⟩ rfl)
  · intro X posts σ' Ωf hsb hA
    refine L.fa Tryz.underlying71 rfl s25 (hsb.get rfl) rfl ?_
    exact L.last (G.fin [] ⟨rfl, rfl⟩ rfl)
  · intro X posts σ' Ωf hsb hA
    have hx11 := (hA 11 rfl).2.1
    have l16 : σ'.lookup 16 = some (aP b1 5) := (hA 11 rfl).1.trans (congrArg some hx11)
    refine L.ld 1 o25 l16 rfl rfl rfl ?_
    exact L.last (G.fin [] ⟨rfl, rfl⟩ rfl)
  · intro X posts σ' Ωf hsb hA
    have hx12 := (hA 12 rfl).2.1
    have l17 : σ'.lookup 17 = some (aD (.l 1 (strs f.cl))) := (hA 12 rfl).1.trans (congrArg some hx12)
    refine L.call e34 (evs1c l17 rfl) rfl (f34 _ 4 (by omega)) ?_
    rintro _ _ ⟨rfl, rfl⟩
    exact L.last (G.fin [] ⟨rfl, rfl⟩ rfl)
  · intro X posts σ' Ωf hsb hA
    refine L.fa Tryz.underlying71 rfl s36 (hsb.get rfl) rfl ?_
    exact L.last (G.fin [] ⟨rfl, rfl⟩ rfl)
  · intro X posts σ' Ωf hsb hA
    have hx14 := (hA 14 rfl).2.1
    have l19 : σ'.lookup 19 = some (aP b1 7) := (hA 14 rfl).1.trans (congrArg some hx14)
    refine L.ld 1 o36 l19 rfl rfl rfl ?_
    exact L.last (G.fin [] ⟨rfl, rfl⟩ rfl)
  · intro X posts σ' Ωf hsb hA
    have hx15 := (hA 15 rfl).2.1
    have l20 : σ'.lookup 20 = some (aD (.l 2 (prs f.st))) := (hA 15 rfl).1.trans (congrArg some hx15)
    refine L.call e35 (evs1c l20 rfl) rfl (f35 _ 4 (by omega)) ?_
    rintro _ _ ⟨rfl, rfl⟩
    exact L.last (G.fin [] ⟨rfl, rfl⟩ rfl)
  · intro X posts σ' Ωf hsb hA
    refine L.fa Tryz.underlying71 rfl s38 (hsb.get rfl) rfl ?_
    exact L.last (G.fin [] ⟨rfl, rfl⟩ rfl)
  · intro X posts σ' Ωf hsb hA
    have hx17 := (hA 17 rfl).2.1
    have l22 : σ'.lookup 22 = some (aP b1 8) := (hA 17 rfl).1.trans (congrArg some hx17)
    refine L.ldg 1 a38 s38 l22 rfl rfl rfl rfl ?_
    exact L.last (G.fin [] ⟨rfl, rfl⟩ rfl)
  · intro X posts σ' Ωf hsb hA
    have hx1 := (hA 1 rfl).2.1
    have l6 : σ'.lookup 6 = some (aD (.i .i64 f.kind)) := (hA 1 rfl).1.trans (congrArg some hx1)
    have hx4 := (hA 4 rfl).2.1
    have l9 : σ'.lookup 9 = some (aS (f.tag.extract 0 20)) := (hA 4 rfl).1.trans (congrArg some hx4)
    have hx7 := (hA 7 rfl).2.1
    have l12 : σ'.lookup 12 = some (aS (f.key.extract 0 20)) := (hA 7 rfl).1.trans (congrArg some hx7)
    have hx10 := (hA 10 rfl).2.1
    have l15 : σ'.lookup 15 = some (aS (f.text.extract 0 70)) := (hA 10 rfl).1.trans (congrArg some hx10)
    have hx13 := (hA 13 rfl).2.1
    have l18 : σ'.lookup 18 = some (aL 1 (strs (few f.cl 4))) := (hA 13 rfl).1.trans (congrArg some hx13)
    have hx16 := (hA 16 rfl).2.1
    have l21 : σ'.lookup 21 = some (aL 2 (prs (fewP f.st 4))) := (hA 16 rfl).1.trans (congrArg some hx16)
    have hx18 := (hA 18 rfl).2.1
    have l23 : σ'.lookup 23 = some (.v (.g [.d (.i .i64 f.op.a), .d (.i .i64 f.op.b), .d (.i .i64 f.op.c), .d (.i .i64 f.op.d), .d (.b f.op.e), .d (.b f.op.f)])) := (hA 18 rfl).1.trans (congrArg some hx18)
    refine L.bld p41 z41 rfl rfl (evpC l6 (evpC l9 (evpC l12 (evpC l15 (evpC l18 (evpC l21 (evpC l23 evpN))))))) rfl rfl ?_
    exact L.last (G.fin [] ⟨rfl, rfl⟩ rfl)
  · intro X posts σ' Ωf hsb hA
    refine L.alloc z41 rfl rfl fun b3 => ?_
    exact L.last (G.fin [_] ⟨b3, rfl, rfl⟩ rfl)
  intro X posts hR
  obtain ⟨hx0, hp0⟩ : X 0 = aP b1 1 ∧ posts 0 = [] := hR 0 rfl
  obtain ⟨hx1, hp1⟩ : X 1 = aD (.i .i64 f.kind) ∧ posts 1 = [] := hR 1 rfl
  obtain ⟨hx2, hp2⟩ : X 2 = aP b1 2 ∧ posts 2 = [] := hR 2 rfl
  obtain ⟨hx3, hp3⟩ : X 3 = aD (.s f.tag) ∧ posts 3 = [] := hR 3 rfl
  obtain ⟨hx4, hp4⟩ : X 4 = aS (f.tag.extract 0 20) ∧ posts 4 = [] := hR 4 rfl
  obtain ⟨hx5, hp5⟩ : X 5 = aP b1 3 ∧ posts 5 = [] := hR 5 rfl
  obtain ⟨hx6, hp6⟩ : X 6 = aD (.s f.key) ∧ posts 6 = [] := hR 6 rfl
  obtain ⟨hx7, hp7⟩ : X 7 = aS (f.key.extract 0 20) ∧ posts 7 = [] := hR 7 rfl
  obtain ⟨hx8, hp8⟩ : X 8 = aP b1 4 ∧ posts 8 = [] := hR 8 rfl
  obtain ⟨hx9, hp9⟩ : X 9 = aD (.s f.text) ∧ posts 9 = [] := hR 9 rfl
  obtain ⟨hx10, hp10⟩ : X 10 = aS (f.text.extract 0 70) ∧ posts 10 = [] := hR 10 rfl
  obtain ⟨hx11, hp11⟩ : X 11 = aP b1 5 ∧ posts 11 = [] := hR 11 rfl
  obtain ⟨hx12, hp12⟩ : X 12 = aD (.l 1 (strs f.cl)) ∧ posts 12 = [] := hR 12 rfl
  obtain ⟨hx13, hp13⟩ : X 13 = aL 1 (strs (few f.cl 4)) ∧ posts 13 = [] := hR 13 rfl
  obtain ⟨hx14, hp14⟩ : X 14 = aP b1 7 ∧ posts 14 = [] := hR 14 rfl
  obtain ⟨hx15, hp15⟩ : X 15 = aD (.l 2 (prs f.st)) ∧ posts 15 = [] := hR 15 rfl
  obtain ⟨hx16, hp16⟩ : X 16 = aL 2 (prs (fewP f.st 4)) ∧ posts 16 = [] := hR 16 rfl
  obtain ⟨hx17, hp17⟩ : X 17 = aP b1 8 ∧ posts 17 = [] := hR 17 rfl
  obtain ⟨hx18, hp18⟩ : X 18 = .v (.g [.d (.i .i64 f.op.a), .d (.i .i64 f.op.b), .d (.i .i64 f.op.c), .d (.i .i64 f.op.d), .d (.b f.op.e), .d (.b f.op.f)]) ∧ posts 18 = [] := hR 18 rfl
  obtain ⟨hx19, hp19⟩ : X 19 = .v (.g [.d (.i .i64 f.kind), .d (.s (f.tag.extract 0 20)), .d (.s (f.key.extract 0 20)), .d (.s (f.text.extract 0 70)), .d (.l 1 (strs (few f.cl 4))), .r nilV, .d (.l 2 (prs (fewP f.st 4))), .d (.i .i64 f.op.a), .d (.i .i64 f.op.b), .d (.i .i64 f.op.c), .d (.i .i64 f.op.d), .d (.b f.op.e), .d (.b f.op.f), .r nilV]) ∧ posts 19 = [] := hR 19 rfl
  obtain ⟨b3, hx20, hp20⟩ : ∃ b3, X 20 = aP b3 0 ∧ posts 20 = [.blk b3 41 zero40] := hR 20 rfl
  have hpp : (List.range 21).flatMap (leftC 21 (fun i => ([] : List (Option Nat)).getD i none) posts) = [.blk b3 41 zero40] := by
    show posts 0 ++ (posts 1 ++ (posts 2 ++ (posts 3 ++ (posts 4 ++ (posts 5 ++ (posts 6 ++ (posts 7 ++ (posts 8 ++ (posts 9 ++ (posts 10 ++ (posts 11 ++ (posts 12 ++ (posts 13 ++ (posts 14 ++ (posts 15 ++ (posts 16 ++ (posts 17 ++ (posts 18 ++ (posts 19 ++ (posts 20 ++ [])))))))))))))))))))) = _
    simp only [hp0, hp1, hp2, hp3, hp4, hp5, hp6, hp7, hp8, hp9, hp10, hp11, hp12, hp13, hp14, hp15, hp16, hp17, hp18, hp19, hp20, List.nil_append, List.append_nil]
  rw [hpp]
  refine L.sub (σ' := [(24, .v (.g [.d (.i .i64 f.kind), .d (.s (f.tag.extract 0 20)), .d (.s (f.key.extract 0 20)), .d (.s (f.text.extract 0 70)), .d (.l 1 (strs (few f.cl 4))), .r nilV, .d (.l 2 (prs (fewP f.st 4))), .d (.i .i64 f.op.a), .d (.i .i64 f.op.b), .d (.i .i64 f.op.c), .d (.i .i64 f.op.d), .d (.b f.op.e), .d (.b f.op.f), .r nilV])), (3, aP b3 0), (2, aP b2 0), (1, aP b1 0)]) ⟨congrArg some hx19, congrArg some hx20, rfl, rfl, trivial⟩ ?_
  refine L.stog 0 s41 rfl rfl rfl rfl rfl rfl ?_
  refine L.last ?_
  refine T.go (fun _ _ h => h) ?_
  refine T.of_seq ?_
  refine T.rg ?_
  refine L.as rfl rfl ?_
  refine L.nil ?_
  refine T.block ?_
  refine T.conv (nil_row 68 2) ?_
  refine T.loop (fun m σ Ω => ∃ (k : Nat) (v : Value), k ≤ f.at'.length ∧ k ≤ 4 ∧ m = f.at'.length - k ∧ σ = [(4, aN k), (3, aP b3 0), (2, aP b2 0), (1, aP b1 0)] ∧ Ω = [.row v 68 2 (ats ((f.at'.take k).map fun p => (cutS 20 p.1, cutS 40 p.2))), .blk b3 41 [.d (.i .i64 f.kind), .d (.s (f.tag.extract 0 20)), .d (.s (f.key.extract 0 20)), .d (.s (f.text.extract 0 70)), .d (.l 1 (strs (few f.cl 4))), .r v, .d (.l 2 (prs (fewP f.st 4))), .d (.i .i64 f.op.a), .d (.i .i64 f.op.b), .d (.i .i64 f.op.c), .d (.i .i64 f.op.d), .d (.b f.op.e), .d (.b f.op.f), .r nilV], .blk b2 41 zero40, .blk b1 71 f.cs]) (f.at'.length) _ (⟨0, _, by omega, by omega, by omega, rfl, rfl⟩) (by repeat constructor) ?_
  rintro m σ Ω ⟨k, v, hk, hkn, rfl, rfl, rfl⟩
  have hlen := ats_len f.at'
  refine T.of_seq ?_
  refine T.rg ?_
  refine L.mv rfl rfl ?_
  refine L.fa Tryz.underlying71 rfl s35 rfl rfl ?_
  refine L.ld 3 o35 rfl rfl rfl rfl ?_
  refine L.lenL Tryz.underlying35 rfl rfl fun hl28 => ?_
  refine L.cmp rfl rfl rfl rfl ?_
  refine L.mv rfl rfl ?_
  refine L.caseB 30 rfl (fun h30 => ?_) (fun h30 => ?_)
  · skip
    have hlt : k < f.at'.length := by have := of_decide_eq_true h30; omega
    refine L.on rfl rfl ?_
    refine L.mv rfl rfl ?_
    refine L.on rfl rfl ?_
    refine L.cmp rfl rfl rfl rfl ?_
    refine L.pkT rfl rfl rfl ?_
    refine L.nil ?_
    refine T.cond rfl (fun h33 => ?_) (fun h33 => ?_)
    · skip
      have hltn : k < 4 := by have := of_decide_eq_true h33; omega
      refine T.skip ?_
      refine T.go (fun _ _ h => h) ?_
      refine T.of_seq ?_
      refine T.block ?_
      refine T.drawC 18 [(4, aN k), (3, aP b3 0), (2, aP b2 0), (1, aP b1 0)] [.row v 68 2 (ats ((f.at'.take k).map fun p => (cutS 20 p.1, cutS 40 p.2))), .blk b3 41 [.d (.i .i64 f.kind), .d (.s (f.tag.extract 0 20)), .d (.s (f.key.extract 0 20)), .d (.s (f.text.extract 0 70)), .d (.l 1 (strs (few f.cl 4))), .r v, .d (.l 2 (prs (fewP f.st 4))), .d (.i .i64 f.op.a), .d (.i .i64 f.op.b), .d (.i .i64 f.op.c), .d (.i .i64 f.op.d), .d (.b f.op.e), .d (.b f.op.f), .r nilV], .blk b2 41 zero40, .blk b1 71 f.cs] (fun _ => []) [] (fun n x _ post => match n with
        | 0 => x = aP b3 5 ∧ post = []
        | 1 => x = aR v ∧ post = []
        | 2 => x = aP b1 6 ∧ post = []
        | 3 => x = aD (.l 2 (ats f.at')) ∧ post = []
        | 4 => x = aN k ∧ post = []
        | 5 => x = .v (.c (.ip [D.s f.at'[k].1, D.s f.at'[k].2])) ∧ post = []
        | 6 => x = .v (.c (.ip [D.s f.at'[k].1, D.s f.at'[k].2])) ∧ post = []
        | 7 => x = aS f.at'[k].1 ∧ post = []
        | 8 => x = aS (cutS 20 f.at'[k].1) ∧ post = []
        | 9 => x = aP b1 6 ∧ post = []
        | 10 => x = aD (.l 2 (ats f.at')) ∧ post = []
        | 11 => x = aN k ∧ post = []
        | 12 => x = .v (.c (.ip [D.s f.at'[k].1, D.s f.at'[k].2])) ∧ post = []
        | 13 => x = .v (.c (.ip [D.s f.at'[k].2])) ∧ post = []
        | 14 => x = aS f.at'[k].2 ∧ post = []
        | 15 => x = aS (cutS 40 f.at'[k].2) ∧ post = []
        | 16 => x = .v (.g [.d (.s (cutS 20 f.at'[k].1)), .d (.s (cutS 40 f.at'[k].2))]) ∧ post = []
        | 17 => x = aL 2 [[D.s (cutS 20 f.at'[k].1), D.s (cutS 40 f.at'[k].2)]] ∧ post = []
        | _ => False) hmixed rfl rfl rfl (by repeat constructor) (List.Perm.refl _) rfl ⟨?_, ?_, ?_, ?_, ?_, ?_, ?_, ?_, ?_, ?_, ?_, ?_, ?_, ?_, ?_, ?_, ?_, ?_, trivial⟩ ?_
      · intro X posts σ' Ωf hsb hA
        refine L.fa Tryz.underlying41 rfl s35 (hsb.get rfl) rfl ?_
        exact L.last (G.fin [] ⟨rfl, rfl⟩ rfl)
      · intro X posts σ' Ωf hsb hA
        have hx0 := (hA 0 rfl).2.1
        have l36 : σ'.lookup 36 = some (aP b3 5) := (hA 0 rfl).1.trans (congrArg some hx0)
        refine L.ld 1 o35 l36 rfl rfl rfl ?_
        exact L.last (G.fin [] ⟨rfl, rfl⟩ rfl)
      · intro X posts σ' Ωf hsb hA
        refine L.fa Tryz.underlying71 rfl s35 (hsb.get rfl) rfl ?_
        exact L.last (G.fin [] ⟨rfl, rfl⟩ rfl)
      · intro X posts σ' Ωf hsb hA
        have hx2 := (hA 2 rfl).2.1
        have l38 : σ'.lookup 38 = some (aP b1 6) := (hA 2 rfl).1.trans (congrArg some hx2)
        refine L.ld 3 o35 l38 rfl rfl rfl ?_
        exact L.last (G.fin [] ⟨rfl, rfl⟩ rfl)
      · intro X posts σ' Ωf hsb hA
        refine L.mv (hsb.get rfl) rfl ?_
        exact L.last (G.fin [] ⟨rfl, rfl⟩ rfl)
      · intro X posts σ' Ωf hsb hA
        have hx3 := (hA 3 rfl).2.1
        have l39 : σ'.lookup 39 = some (aD (.l 2 (ats f.at'))) := (hA 3 rfl).1.trans (congrArg some hx3)
        have hx4 := (hA 4 rfl).2.1
        have l40 : σ'.lookup 40 = some (aN k) := (hA 4 rfl).1.trans (congrArg some hx4)
        refine L.ixL k _ Tryz.underlying35 s68 l39 l40 rfl (ats_get hlt) rfl ?_
        exact L.last (G.fin [] ⟨rfl, rfl⟩ rfl)
      · intro X posts σ' Ωf hsb hA
        have hx5 := (hA 5 rfl).2.1
        have l41 : σ'.lookup 41 = some (.v (.c (.ip [D.s f.at'[k].1, D.s f.at'[k].2]))) := (hA 5 rfl).1.trans (congrArg some hx5)
        refine L.fi Tryz.underlying68 rfl s9 l41 rfl ?_
        exact L.last (G.fin [] ⟨rfl, rfl⟩ rfl)
      · intro X posts σ' Ωf hsb hA
        have hx6 := (hA 6 rfl).2.1
        have l42 : σ'.lookup 42 = some (.v (.c (.ip [D.s f.at'[k].1, D.s f.at'[k].2]))) := (hA 6 rfl).1.trans (congrArg some hx6)
        refine L.li o9 l42 rfl ?_
        exact L.last (G.fin [] ⟨rfl, rfl⟩ rfl)
      · intro X posts σ' Ωf hsb hA
        have hx7 := (hA 7 rfl).2.1
        have l43 : σ'.lookup 43 = some (aS f.at'[k].1) := (hA 7 rfl).1.trans (congrArg some hx7)
        refine L.call e19 (evs1c l43 rfl) rfl (f19 _ 20 (by omega)) ?_
        rintro _ _ ⟨rfl, rfl⟩
        exact L.last (G.fin [] ⟨rfl, rfl⟩ rfl)
      · intro X posts σ' Ωf hsb hA
        refine L.fa Tryz.underlying71 rfl s35 (hsb.get rfl) rfl ?_
        exact L.last (G.fin [] ⟨rfl, rfl⟩ rfl)
      · intro X posts σ' Ωf hsb hA
        have hx9 := (hA 9 rfl).2.1
        have l45 : σ'.lookup 45 = some (aP b1 6) := (hA 9 rfl).1.trans (congrArg some hx9)
        refine L.ld 3 o35 l45 rfl rfl rfl ?_
        exact L.last (G.fin [] ⟨rfl, rfl⟩ rfl)
      · intro X posts σ' Ωf hsb hA
        refine L.mv (hsb.get rfl) rfl ?_
        exact L.last (G.fin [] ⟨rfl, rfl⟩ rfl)
      · intro X posts σ' Ωf hsb hA
        have hx10 := (hA 10 rfl).2.1
        have l46 : σ'.lookup 46 = some (aD (.l 2 (ats f.at'))) := (hA 10 rfl).1.trans (congrArg some hx10)
        have hx11 := (hA 11 rfl).2.1
        have l47 : σ'.lookup 47 = some (aN k) := (hA 11 rfl).1.trans (congrArg some hx11)
        refine L.ixL k _ Tryz.underlying35 s68 l46 l47 rfl (ats_get hlt) rfl ?_
        exact L.last (G.fin [] ⟨rfl, rfl⟩ rfl)
      · intro X posts σ' Ωf hsb hA
        have hx12 := (hA 12 rfl).2.1
        have l48 : σ'.lookup 48 = some (.v (.c (.ip [D.s f.at'[k].1, D.s f.at'[k].2]))) := (hA 12 rfl).1.trans (congrArg some hx12)
        refine L.fi Tryz.underlying68 rfl s9 l48 rfl ?_
        exact L.last (G.fin [] ⟨rfl, rfl⟩ rfl)
      · intro X posts σ' Ωf hsb hA
        have hx13 := (hA 13 rfl).2.1
        have l49 : σ'.lookup 49 = some (.v (.c (.ip [D.s f.at'[k].2]))) := (hA 13 rfl).1.trans (congrArg some hx13)
        refine L.li o9 l49 rfl ?_
        exact L.last (G.fin [] ⟨rfl, rfl⟩ rfl)
      · intro X posts σ' Ωf hsb hA
        have hx14 := (hA 14 rfl).2.1
        have l50 : σ'.lookup 50 = some (aS f.at'[k].2) := (hA 14 rfl).1.trans (congrArg some hx14)
        refine L.call e19 (evs1c l50 rfl) rfl (f19 _ 40 (by omega)) ?_
        rintro _ _ ⟨rfl, rfl⟩
        exact L.last (G.fin [] ⟨rfl, rfl⟩ rfl)
      · intro X posts σ' Ωf hsb hA
        have hx8 := (hA 8 rfl).2.1
        have l44 : σ'.lookup 44 = some (aS (cutS 20 f.at'[k].1)) := (hA 8 rfl).1.trans (congrArg some hx8)
        have hx15 := (hA 15 rfl).2.1
        have l51 : σ'.lookup 51 = some (aS (cutS 40 f.at'[k].2)) := (hA 15 rfl).1.trans (congrArg some hx15)
        refine L.bld p68 z68 rfl rfl (evpC l44 (evpC l51 evpN)) rfl rfl ?_
        exact L.last (G.fin [] ⟨rfl, rfl⟩ rfl)
      · intro X posts σ' Ωf hsb hA
        have hx16 := (hA 16 rfl).2.1
        have l52 : σ'.lookup 52 = some (.v (.g [.d (.s (cutS 20 f.at'[k].1)), .d (.s (cutS 40 f.at'[k].2))])) := (hA 16 rfl).1.trans (congrArg some hx16)
        refine L.bsD rfl Tryz.underlying35 i68 rfl rfl (evpC l52 evpN) rfl rfl ?_
        exact L.last (G.fin [] ⟨rfl, rfl⟩ rfl)
      intro X posts hR
      obtain ⟨hx0, hp0⟩ : X 0 = aP b3 5 ∧ posts 0 = [] := hR 0 rfl
      obtain ⟨hx1, hp1⟩ : X 1 = aR v ∧ posts 1 = [] := hR 1 rfl
      obtain ⟨hx2, hp2⟩ : X 2 = aP b1 6 ∧ posts 2 = [] := hR 2 rfl
      obtain ⟨hx3, hp3⟩ : X 3 = aD (.l 2 (ats f.at')) ∧ posts 3 = [] := hR 3 rfl
      obtain ⟨hx4, hp4⟩ : X 4 = aN k ∧ posts 4 = [] := hR 4 rfl
      obtain ⟨hx5, hp5⟩ : X 5 = .v (.c (.ip [D.s f.at'[k].1, D.s f.at'[k].2])) ∧ posts 5 = [] := hR 5 rfl
      obtain ⟨hx6, hp6⟩ : X 6 = .v (.c (.ip [D.s f.at'[k].1, D.s f.at'[k].2])) ∧ posts 6 = [] := hR 6 rfl
      obtain ⟨hx7, hp7⟩ : X 7 = aS f.at'[k].1 ∧ posts 7 = [] := hR 7 rfl
      obtain ⟨hx8, hp8⟩ : X 8 = aS (cutS 20 f.at'[k].1) ∧ posts 8 = [] := hR 8 rfl
      obtain ⟨hx9, hp9⟩ : X 9 = aP b1 6 ∧ posts 9 = [] := hR 9 rfl
      obtain ⟨hx10, hp10⟩ : X 10 = aD (.l 2 (ats f.at')) ∧ posts 10 = [] := hR 10 rfl
      obtain ⟨hx11, hp11⟩ : X 11 = aN k ∧ posts 11 = [] := hR 11 rfl
      obtain ⟨hx12, hp12⟩ : X 12 = .v (.c (.ip [D.s f.at'[k].1, D.s f.at'[k].2])) ∧ posts 12 = [] := hR 12 rfl
      obtain ⟨hx13, hp13⟩ : X 13 = .v (.c (.ip [D.s f.at'[k].2])) ∧ posts 13 = [] := hR 13 rfl
      obtain ⟨hx14, hp14⟩ : X 14 = aS f.at'[k].2 ∧ posts 14 = [] := hR 14 rfl
      obtain ⟨hx15, hp15⟩ : X 15 = aS (cutS 40 f.at'[k].2) ∧ posts 15 = [] := hR 15 rfl
      obtain ⟨hx16, hp16⟩ : X 16 = .v (.g [.d (.s (cutS 20 f.at'[k].1)), .d (.s (cutS 40 f.at'[k].2))]) ∧ posts 16 = [] := hR 16 rfl
      obtain ⟨hx17, hp17⟩ : X 17 = aL 2 [[D.s (cutS 20 f.at'[k].1), D.s (cutS 40 f.at'[k].2)]] ∧ posts 17 = [] := hR 17 rfl
      have hpp : (List.range 18).flatMap (leftC 18 (fun i => ([] : List (Option Nat)).getD i none) posts) = [] := by
        show posts 0 ++ (posts 1 ++ (posts 2 ++ (posts 3 ++ (posts 4 ++ (posts 5 ++ (posts 6 ++ (posts 7 ++ (posts 8 ++ (posts 9 ++ (posts 10 ++ (posts 11 ++ (posts 12 ++ (posts 13 ++ (posts 14 ++ (posts 15 ++ (posts 16 ++ (posts 17 ++ []))))))))))))))))) = _
        simp only [hp0, hp1, hp2, hp3, hp4, hp5, hp6, hp7, hp8, hp9, hp10, hp11, hp12, hp13, hp14, hp15, hp16, hp17, List.append_nil]
      rw [hpp]
      refine L.sub (σ' := [(37, aR v), (53, aL 2 [[D.s (cutS 20 f.at'[k].1), D.s (cutS 40 f.at'[k].2)]]), (4, aN k), (3, aP b3 0), (2, aP b2 0), (1, aP b1 0)]) ⟨congrArg some hx1, congrArg some hx17, rfl, rfl, rfl, rfl, trivial⟩ ?_
      refine L.app 0 Tryz.underlying35 i68 rfl rfl rfl rfl rfl (by simp; omega) (by simp; omega) rfl (fun _ => rfl) fun v54 => ?_
      refine L.fa Tryz.underlying41 rfl s35 rfl rfl ?_
      refine L.sto 1 s35 rfl rfl rfl rfl rfl ?_
      refine L.last ?_
      refine T.go (fun _ _ h => h) ?_
      refine T.region ?_
      refine L.mv rfl rfl ?_
      refine L.ar ((k + 1 : Nat) : Int) rfl rfl rfl (by omega) rfl ?_
      refine L.as rfl rfl ?_
      refine L.last ?_
      refine G.round (f.at'.length - (k + 1)) _ (by omega) ⟨k + 1, v54, by omega, by omega, rfl, rfl, ?_⟩ (by repeat constructor)
      rw [take_map_snoc _ _ _ hlt, ats_snoc]
      all_goals rfl
    · skip
      have hgen : 4 ≤ k := by have := of_decide_eq_false h33; omega
      refine T.exit ?_
      refine T.go (fun _ _ h => h) ?_
      refine T.rg ?_
      refine L.conv (cell_pub (j := 1) (o := 5) (i := 0) (sz := 2) rfl rfl rfl rfl rfl rfl) ?_
      refine L.conv (nil_row 41 14) ?_
      refine L.conv (cell_pub (j := 1) (o := 13) (i := 0) (sz := 14) rfl rfl rfl rfl rfl rfl) ?_
      refine L.ldg 0 a41 s41 rfl rfl rfl rfl rfl ?_
      refine L.stog 1 s41 rfl rfl rfl rfl rfl rfl ?_
      refine L.nil ?_
      refine T.ret ?_
      exact G.retW (fun w hs => (let h1 := drop_at (i := 0) rfl rfl w hs; let h2 := drop_at (i := 0) rfl rfl w h1.1; let h3 := drop_at (i := 0) rfl rfl w h2.1; ⟨h3.1, h1.2.trans (h2.2.trans h3.2)⟩)) (resC (i := 1) Tryz.results17 rfl a41 s41 rfl rfl) ⟨rfl, by have hk4 : k = 4 := (by omega); subst hk4; rfl⟩
  · skip
    have hge : f.at'.length ≤ k := by have := of_decide_eq_false h30; omega
    refine L.off rfl rfl rfl rfl ?_
    refine L.off rfl rfl rfl rfl ?_
    refine L.pkF rfl rfl rfl ?_
    refine L.nil ?_
    refine T.condF rfl ?_
    refine T.exit ?_
    refine T.go (fun _ _ h => h) ?_
    refine T.rg ?_
    refine L.conv (cell_pub (j := 1) (o := 5) (i := 0) (sz := 2) rfl rfl rfl rfl rfl rfl) ?_
    refine L.conv (nil_row 41 14) ?_
    refine L.conv (cell_pub (j := 1) (o := 13) (i := 0) (sz := 14) rfl rfl rfl rfl rfl rfl) ?_
    refine L.ldg 0 a41 s41 rfl rfl rfl rfl rfl ?_
    refine L.stog 1 s41 rfl rfl rfl rfl rfl rfl ?_
    refine L.nil ?_
    refine T.ret ?_
    exact G.retW (fun w hs => (let h1 := drop_at (i := 0) rfl rfl w hs; let h2 := drop_at (i := 0) rfl rfl w h1.1; let h3 := drop_at (i := 0) rfl rfl w h2.1; ⟨h3.1, h1.2.trans (h2.2.trans h3.2)⟩)) (resC (i := 1) Tryz.results17 rfl a41 s41 rfl rfl) ⟨rfl, by have : (f.at'.take k) = f.at'.take 4 := (by rw [List.take_of_length_le hge, List.take_of_length_le (by omega)]); rw [this]; rfl⟩

theorem FlatV.lig_d (f : FlatV) : f.d.take 14 = f.d := rfl
theorem withKids_size (f : FlatV) (ns : List Nd) : (f.node.withKids ns).size = ndsSize ns + 1 := rfl
theorem withKids_few (f : FlatV) {ns : List Nd} (h : ndsFew ns) : (f.node.withKids ns).few := ⟨f.node_few.1, f.node_few.2.1, f.node_few.2.2.1, h⟩

set_option maxHeartbeats 4000000 in
theorem f18s (l : List FlatV) (hl : l.length ≤ 1000) (at0 : Nat) (hat : at0 ≤ l.length) (deep : Int) (ih : ∀ at2 : Nat, at0 < at2 → at2 ≤ l.length → ∀ deep2 : Int, Fc Tryz.prog 18 [L_ 14 (flats l), N_ (at2 : Int), N_ deep2] [] (fun x Ω => Ω = [] ∧ ∃ (ns : List Nd) (a2 : Nat), x = .t [L_ 14 (ndsD ns), N_ (a2 : Int)] ∧ a2 ≤ l.length ∧ ndsSize ns + at2 = a2 ∧ ndsFew ns)) : Fc Tryz.prog 18 [L_ 14 (flats l), N_ (at0 : Int), N_ deep] [] (fun x Ω => Ω = [] ∧ ∃ (ns : List Nd) (a2 : Nat), x = .t [L_ 14 (ndsD ns), N_ (a2 : Int)] ∧ a2 ≤ l.length ∧ ndsSize ns + at0 = a2 ∧ ndsFew ns) := by
  refine Fc.enter Tryz.func18 rfl Tryz.ntmps18 rfl fun X w => ?_
  refine T.rg ?_
  refine L.as rfl rfl ?_
  refine L.as rfl rfl ?_
  refine L.nil ?_
  refine T.rg ?_
  refine L.as rfl rfl ?_
  refine L.nil ?_
  refine T.of_seq ?_
  refine T.block ?_
  refine T.conv (nil_row 41 14) ?_
  refine T.loop (fun m σ Ω => ∃ (k : Nat) (ns : List Nd) (v : Value), at0 ≤ k ∧ k ≤ l.length ∧ m = l.length - k ∧ ndsSize ns + at0 = k ∧ ndsFew ns ∧ σ = [(1, aN k), (8, aR v), (2, aN deep), (0, aL 14 (flats l))] ∧ Ω = [.row v 41 14 (ndsD ns)]) (l.length - at0) _ (⟨at0, [], _, Nat.le_refl _, hat, rfl, by simp [ndsSize], trivial, rfl, rfl⟩) (by repeat constructor) ?_
  rintro m σ Ω ⟨k, ns, v, hak, hk, rfl, hns, hfew, rfl, rfl⟩
  have hlen := flats_len l
  have hnl := ndsSize_len ns
  have hnd := ndsD_len ns
  refine T.of_seq ?_
  refine T.rg ?_
  refine L.mv rfl rfl ?_
  refine L.mv rfl rfl ?_
  refine L.lenL Tryz.underlying22 rfl rfl fun hl12 => ?_
  refine L.cmp rfl rfl rfl rfl ?_
  refine L.mv rfl rfl ?_
  refine L.caseB 14 rfl (fun h14 => ?_) (fun h14 => ?_)
  · skip
    have hlt : k < l.length := by have := of_decide_eq_true h14; omega
    refine L.on rfl rfl ?_
    refine L.mv rfl rfl ?_
    refine L.on rfl rfl ?_
    refine L.mv rfl rfl ?_
    refine L.on rfl rfl ?_
    refine L.ixL k _ Tryz.underlying22 s71 rfl rfl rfl (flats_get hlt) rfl ?_
    refine L.on rfl rfl ?_
    refine L.fi Tryz.underlying71 rfl s3 rfl rfl ?_
    refine L.on rfl rfl ?_
    refine L.li o3 rfl rfl ?_
    refine L.on rfl rfl ?_
    refine L.mv rfl rfl ?_
    refine L.on rfl rfl ?_
    refine L.cmp rfl rfl rfl rfl ?_
    refine L.pkT rfl rfl rfl ?_
    refine L.nil ?_
    refine T.cond rfl (fun h22 => ?_) (fun h22 => ?_)
    · skip
      refine T.skip ?_
      refine T.go (fun _ _ h => h) ?_
      refine T.block ?_
      refine T.rg ?_
      refine L.mv rfl rfl ?_
      refine L.mv rfl rfl ?_
      refine L.ixL k _ Tryz.underlying22 s71 rfl rfl rfl (flats_get hlt) rfl ?_
      refine L.lig (ys := l[k].d) a71 s71 rfl rfl rfl rfl ?_
      rw [← FlatV.cs_d]
      refine L.call e17 rfl rfl (f17 _) ?_
      rintro _ _ ⟨rfl, rfl⟩
      refine L.alloc z41 rfl rfl fun b9 => ?_
      refine L.stog 0 s41 rfl rfl rfl rfl rfl rfl ?_
      refine L.nil ?_
      refine T.rg ?_
      refine L.mv rfl rfl ?_
      refine L.mv rfl rfl ?_
      refine L.ar ((k + 1 : Nat) : Int) rfl rfl rfl (by omega) rfl ?_
      refine L.mv rfl rfl ?_
      refine L.mv rfl rfl ?_
      refine L.ixL k _ Tryz.underlying22 s71 rfl rfl rfl (flats_get hlt) rfl ?_
      refine L.fi Tryz.underlying71 rfl s3 rfl rfl ?_
      refine L.li o3 rfl rfl ?_
      refine L.call e18 rfl rfl (ih (k + 1) (by omega) (by omega) _) ?_
      rintro _ _ ⟨rfl, ns2, a2, rfl, ha2, hns2, hfew2⟩
      refine L.mv rfl rfl ?_
      refine L.ex rfl rfl rfl ?_
      refine L.ex rfl rfl rfl ?_
      refine L.fa Tryz.underlying41 rfl s39 rfl rfl ?_
      refine L.sto 0 s39 rfl rfl rfl rfl rfl ?_
      refine L.as rfl rfl ?_
      refine L.nil ?_
      refine T.region ?_
      refine L.mv rfl rfl ?_
      refine L.ldg 0 a41 s41 rfl rfl rfl rfl rfl ?_
      refine L.bsD rfl Tryz.underlying39 i41 rfl rfl rfl rfl rfl ?_
      refine L.app 1 Tryz.underlying39 i41 rfl rfl rfl rfl rfl (by simp; omega) (by simp; omega) rfl (fun _ => rfl) fun v44 => ?_
      refine L.as rfl rfl ?_
      refine L.last ?_
      refine G.conv (drop_at (i := 0) rfl rfl) ?_
      refine G.round (l.length - a2) _ (by omega) ⟨a2, ns ++ [l[k].node.withKids ns2], v44, by omega, ha2, rfl, ?_, ?_, rfl, ?_⟩ (by repeat constructor)
      · rw [ndsSize_append]; simp only [ndsSize, withKids_size]; omega
      · refine ndsFew_all.2 fun x hx => ?_
        rcases List.mem_append.1 hx with h | h
        · exact ndsFew_all.1 hfew x h
        · obtain rfl := List.mem_singleton.1 h; exact withKids_few _ hfew2
      · rw [ndsD_snoc]; rfl
    · skip
      refine T.exit ?_
      refine T.go (fun _ _ h => h) ?_
      refine T.rg ?_
      refine L.mv rfl rfl ?_
      refine L.mv rfl rfl ?_
      refine L.as rfl rfl ?_
      refine L.as rfl rfl ?_
      refine L.nil ?_
      refine T.ret ?_
      refine G.pub 6 0 rfl rfl rfl ?_
      exact G.ret (res2 Tryz.results18 rfl rfl) ⟨rfl, ns, k, rfl, hk, hns, hfew⟩
  · skip
    have hge : l.length ≤ k := by have := of_decide_eq_false h14; omega
    refine L.off rfl rfl rfl rfl ?_
    refine L.off rfl rfl rfl rfl ?_
    refine L.off rfl rfl rfl rfl ?_
    refine L.off rfl rfl rfl rfl ?_
    refine L.off rfl rfl rfl rfl ?_
    refine L.off rfl rfl rfl rfl ?_
    refine L.off rfl rfl rfl rfl ?_
    refine L.pkF rfl rfl rfl ?_
    refine L.nil ?_
    refine T.condF rfl ?_
    refine T.exit ?_
    refine T.go (fun _ _ h => h) ?_
    refine T.rg ?_
    refine L.mv rfl rfl ?_
    refine L.mv rfl rfl ?_
    refine L.as rfl rfl ?_
    refine L.as rfl rfl ?_
    refine L.nil ?_
    refine T.ret ?_
    refine G.pub 6 0 rfl rfl rfl ?_
    exact G.ret (res2 Tryz.results18 rfl rfl) ⟨rfl, ns, k, rfl, hk, hns, hfew⟩

theorem f18 (l : List FlatV) (hl : l.length ≤ 1000) : ∀ (n at0 : Nat), l.length - at0 ≤ n → at0 ≤ l.length → ∀ deep : Int, Fc Tryz.prog 18 [L_ 14 (flats l), N_ (at0 : Int), N_ deep] [] (fun x Ω => Ω = [] ∧ ∃ (ns : List Nd) (a2 : Nat), x = .t [L_ 14 (ndsD ns), N_ (a2 : Int)] ∧ a2 ≤ l.length ∧ ndsSize ns + at0 = a2 ∧ ndsFew ns)
  | 0, at0, hn, hat, deep => f18s l hl at0 hat deep fun at2 h1 h2 _ => by omega
  | n + 1, at0, hn, hat, deep => f18s l hl at0 hat deep fun at2 h1 h2 deep2 => f18 l hl n at2 (by omega) h2 deep2

theorem flats_take (l : List FlatV) (n : Nat) : (flats l).take n = flats (l.take n) := by simp [flats, List.map_take]
abbrev noOp : Op6 := ⟨0, 0, 0, 0, false, false⟩

set_option maxHeartbeats 4000000 in
theorem f6 (l : List FlatV) (most : Nat) (hm1 : 1 ≤ most) (hm2 : most ≤ 1000) : Fc Tryz.prog 6 [L_ 14 (flats l), N_ (most : Int)] [] (fun x Ω => Ω = [] ∧ ∃ t : Nd, x = .v (.g t.cs) ∧ t.size ≤ most ∧ t.few) := by
  refine Fc.enter Tryz.func6 rfl Tryz.ntmps6 rfl fun X w => ?_
  refine T.rg ?_
  refine L.alloc z41 rfl rfl fun b4 => ?_
  refine L.nil ?_
  refine T.cut (fun σ Ω => ∃ m : List FlatV, m.length ≤ most ∧ σ = [(0, aL 14 (flats m)), (4, aP b4 0)] ∧ Ω = [.blk b4 41 zero40]) ?_ ?_
  · rintro σ Ω ⟨m, hml, rfl, rfl⟩
    refine T.of_seq ?_
    refine T.rg ?_
    refine L.mv rfl rfl ?_
    refine L.lenL Tryz.underlying22 rfl rfl fun hl14 => ?_
    rw [flats_len]
    refine L.cmp rfl rfl rfl rfl ?_
    refine L.nil ?_
    refine T.cond rfl (fun h15 => ?_) (fun h15 => ?_)
    · skip
      refine T.rg ?_
      refine L.bld p41 z41 rfl rfl rfl rfl rfl ?_
      refine L.stog 0 s41 rfl rfl rfl rfl rfl rfl ?_
      refine L.nil ?_
      refine T.ret ?_
      refine G.conv (nil_row 25 1) ?_
      refine G.conv (cell_pub (j := 1) (o := 4) (i := 0) (sz := 1) rfl rfl rfl rfl rfl rfl) ?_
      refine G.conv (nil_row 35 2) ?_
      refine G.conv (cell_pub (j := 1) (o := 5) (i := 0) (sz := 2) rfl rfl rfl rfl rfl rfl) ?_
      refine G.conv (nil_row 36 2) ?_
      refine G.conv (cell_pub (j := 1) (o := 6) (i := 0) (sz := 2) rfl rfl rfl rfl rfl rfl) ?_
      refine G.conv (nil_row 41 14) ?_
      refine G.conv (cell_pub (j := 1) (o := 13) (i := 0) (sz := 14) rfl rfl rfl rfl rfl rfl) ?_
      exact G.retW (drop_at (i := 0) rfl rfl) (resC (i := 0) Tryz.results6 rfl a41 s41 rfl rfl) ⟨rfl, .mk 2 ⟨#[112]⟩ ⟨#[]⟩ ⟨#[]⟩ [] [] [] noOp [], rfl, hm1, Nat.zero_le _, Nat.zero_le _, Nat.zero_le _, trivial⟩
    · skip
      have hpos : 0 < m.length := by have : ¬ (m.length : Int) = 0 := (by simpa using h15); omega
      refine T.skip ?_
      refine T.go (fun _ _ h => h) ?_
      refine T.rg ?_
      refine L.mv rfl rfl ?_
      refine L.ixL 0 _ Tryz.underlying22 s71 rfl rfl rfl (flats_get hpos) rfl ?_
      refine L.lig (ys := m[0].d) a71 s71 rfl rfl rfl rfl ?_
      rw [← FlatV.cs_d]
      refine L.call e17 rfl rfl (f17 _) ?_
      rintro _ _ ⟨rfl, rfl⟩
      refine L.alloc z41 rfl rfl fun b5 => ?_
      refine L.stog 0 s41 rfl rfl rfl rfl rfl rfl ?_
      refine L.nil ?_
      refine T.rg ?_
      refine L.mv rfl rfl ?_
      refine L.mv rfl rfl ?_
      refine L.ixL 0 _ Tryz.underlying22 s71 rfl rfl rfl (flats_get hpos) rfl ?_
      refine L.fi Tryz.underlying71 rfl s3 rfl rfl ?_
      refine L.li o3 rfl rfl ?_
      refine L.call e18 rfl rfl (f18 m (by omega) m.length 1 (by omega) hpos _) ?_
      rintro _ _ ⟨rfl, ns, a2, rfl, ha2, hns, hfew⟩
      refine L.mv rfl rfl ?_
      refine L.ex rfl rfl rfl ?_
      refine L.ex rfl rfl rfl ?_
      refine L.fa Tryz.underlying41 rfl s39 rfl rfl ?_
      refine L.sto 0 s39 rfl rfl rfl rfl rfl ?_
      refine L.nil ?_
      refine T.rg ?_
      refine L.ldg 0 a41 s41 rfl rfl rfl rfl rfl ?_
      refine L.stog 1 s41 rfl rfl rfl rfl rfl rfl ?_
      refine L.nil ?_
      refine T.ret ?_
      exact G.retW (fun w hs => (let h1 := drop_at (i := 0) rfl rfl w hs; let h2 := drop_at (i := 0) rfl rfl w h1.1; ⟨h2.1, h1.2.trans h2.2⟩)) (resC (i := 1) Tryz.results6 rfl a41 s41 rfl rfl) ⟨rfl, m[0].node.withKids ns, rfl, by rw [withKids_size]; omega, withKids_few _ hfew⟩
  · skip
    refine T.rg ?_
    refine L.mv rfl rfl ?_
    refine L.lenL Tryz.underlying22 rfl rfl fun hl7 => ?_
    rw [flats_len] at hl7 ⊢
    refine L.mv rfl rfl ?_
    refine L.cmp rfl rfl rfl rfl ?_
    refine L.nil ?_
    refine T.cond rfl (fun h9 => ?_) (fun h9 => ?_)
    · skip
      have hgt : most < l.length := by have := of_decide_eq_true h9; omega
      refine T.region ?_
      refine L.mv rfl rfl ?_
      refine L.mv rfl rfl ?_
      refine L.slL 0 most Tryz.underlying22 s71 rfl rfl ⟨_, rfl⟩ ⟨Nat.zero_le _, by rw [flats_len]; omega⟩ rfl ?_
      rw [show ((flats l).drop 0).take (most - 0) = flats (l.take most) by rw [List.drop_zero, Nat.sub_zero, flats_take]]
      refine L.as rfl rfl ?_
      refine L.last ?_
      exact G.cut [(0, aL 14 (flats (l.take most))), (4, aP b4 0)] ⟨_, by rw [List.length_take]; omega, rfl, rfl⟩ (by repeat constructor)
    · skip
      have hle : l.length ≤ most := by have := of_decide_eq_false h9; omega
      refine T.skip ?_
      exact G.cut [(0, aL 14 (flats l)), (4, aP b4 0)] ⟨_, hle, rfl, rfl⟩ (by repeat constructor)
end Go.Proofs.YtimimkdgofiloaaGreat
