/- Dispatch. Printed by gen.py. -/
import Derived.Test.YtimimkdgofiloaaGreatDm
namespace Go.Proofs.YtimimkdgofiloaaGreat
open Go Go.Q
theorem lis_cs (e : LisV) : [D.l 4 (sel e.1), D.b e.2.1, D.b e.2.2].map CV.d = [.d (.l 4 (sel e.1)), .d (.b e.2.1), .d (.b e.2.2)] := rfl
theorem seq_step (ls : List LisV) (fits : List (List Int)) (c : Bool) {l : List Int} {k : Nat} (h : k < l.length) {s s0 z : RoundV} (hk : seqM ls fits c l s0 = seqM ls fits c (l.drop k) s) (hz : z = if s.2 then s else atM ls fits l[k] c ls.length s) : seqM ls fits c l s0 = seqM ls fits c (l.drop (k + 1)) z := by
  rw [hk, seqM_drop ls fits c h, hz]
theorem atM_len2 (ls : List LisV) (fits : List (List Int)) (id : Int) (c : Bool) (s : RoundV) (h : ls.length ≤ 100) {k : Nat} (hs : s.1.length ≤ k * 100) : (atM ls fits id c ls.length s).1.length ≤ (k + 1) * 100 := by
  have := atM_len ls fits id c s ls.length; omega
set_option maxHeartbeats 4000000 in
theorem f8 (ls : List LisV) (hls : ls.length ≤ 100) (hsel : ∀ e ∈ ls, e.1.length ≤ 500) (t : Tr) (hok : t.ok) (hsz : t.size ≤ 1000) (x : Int) : Fc Tryz.prog 8 [.g t.cs, N_ x, L_ 3 (lisS ls)] [] (Just (aL 2 (calS (dispM ls t x).1))) := by
  refine Fc.enter Tryz.func8 rfl Tryz.ntmps8 rfl fun X w => ?_
  refine T.rg ?_
  refine L.box rfl rfl fun b3 => ?_
  refine L.as rfl rfl ?_
  refine L.nil ?_
  refine T.rg ?_
  refine L.mv rfl rfl ?_
  refine L.bld p89 z89 rfl rfl rfl rfl rfl ?_
  refine L.box rfl rfl fun b17 => ?_
  refine L.alloc z86 rfl rfl fun b7 => ?_
  refine L.sto 0 s86 rfl rfl rfl rfl rfl ?_
  refine L.nil ?_
  refine T.of_seq ?_
  refine T.rg ?_
  refine L.mv rfl rfl ?_
  refine L.lenL Tryz.underlying43 rfl rfl fun hl19 => ?_
  refine L.mv rfl rfl ?_
  refine L.nil ?_
  refine T.block ?_
  refine T.conv (nil_row 49 1) ?_
  refine T.loop (fun m σ Ω => ∃ (k : Nat) (v : Value), k ≤ ls.length ∧ m = ls.length - k ∧ σ = [(20, aN k), (19, aN (lisS ls).length), (18, aL 3 (lisS ls)), (7, aP b7 0), (3, aP b3 0), (1, aN x)] ∧ Ω = [.row v 49 1 (fitS ((allF ls t).take k)), .blk b7 86 [.p b17 0], .blk b17 89 [.d (.l 3 (lisS ls)), .r v, .r nilV, .d (.b false)], .blk b3 32 t.cs]) (ls.length) _ (⟨0, _, Nat.zero_le _, rfl, rfl, rfl⟩) (by repeat constructor) ?_
  rintro m σ Ω ⟨k, v, hk, rfl, rfl, rfl⟩
  have hll := lis_len ls
  have hal := allF_len ls t
  refine T.rg ?_
  refine L.cmp rfl rfl rfl rfl ?_
  refine L.nil ?_
  refine T.of_seq ?_
  refine T.cond rfl (fun h21 => ?_) (fun h21 => ?_)
  · skip
    have hlt : k < ls.length := by have := of_decide_eq_true h21; omega
    refine T.skip ?_
    refine T.go (fun _ _ h => h) ?_
    refine T.of_seq ?_
    refine T.block ?_
    refine T.rg ?_
    refine L.ixL k _ Tryz.underlying43 s54 rfl rfl rfl (lis_get hlt) rfl ?_
    refine L.lig a54 s54 rfl rfl rfl rfl ?_
    refine L.alloc z54 rfl rfl fun b9 => ?_
    refine L.stog 0 s54 rfl rfl rfl rfl rfl rfl ?_
    refine L.nil ?_
    refine T.drawC 11 [(20, aN k), (19, aN (lisS ls).length), (18, aL 3 (lisS ls)), (9, aP b9 0), (7, aP b7 0), (3, aP b3 0), (1, aN x)] ([.blk b9 54 [.d (.l 4 (sel ls[k].1)), .d (.b ls[k].2.1), .d (.b ls[k].2.2)], .blk b7 86 [.p b17 0], .blk b17 89 [.d (.l 3 (lisS ls)), .r v, .r nilV, .d (.b false)], .blk b3 32 t.cs]) (fun n => match n with | 10 => [.row v 49 1 (fitS ((allF ls t).take k))] | _ => []) [] (fun n x _ post => match n with
      | 0 => x = aP b17 0 ∧ post = []
      | 1 => x = aP b17 0 ∧ post = []
      | 2 => x = aP b17 0 ∧ post = []
      | 3 => x = aP b17 1 ∧ post = []
      | 4 => x = aR v ∧ post = []
      | 5 => x = .v (.g (t.cs)) ∧ post = []
      | 6 => x = aP b9 0 ∧ post = []
      | 7 => x = aD (.l 4 (sel ls[k].1)) ∧ post = []
      | 8 => x = aL 1 (ints (allM ls[k].1 t)) ∧ post = []
      | 9 => x = aL 1 [[D.l 1 (ints (allM ls[k].1 t))]] ∧ post = []
      | 10 => ∃ v34, x = aR v34 ∧ post = [.row v34 49 1 ((fitS ((allF ls t).take k)) ++ [[D.l 1 (ints (allM ls[k].1 t))]])]
      | _ => False) hmixed rfl rfl rfl (by repeat constructor) (List.Perm.swap _ _ _) rfl ⟨?_, ?_, ?_, ?_, ?_, ?_, ?_, ?_, ?_, ?_, ?_, trivial⟩ ?_
    · intro X posts σ' Ωf hsb hA
      refine L.ld 1 o86 (hsb.get rfl) rfl rfl rfl ?_
      exact L.last (G.fin [] ⟨rfl, rfl⟩ rfl)
    · intro X posts σ' Ωf hsb hA
      refine L.ld 1 o86 (hsb.get rfl) rfl rfl rfl ?_
      exact L.last (G.fin [] ⟨rfl, rfl⟩ rfl)
    · intro X posts σ' Ωf hsb hA
      have hx1 := (hA 1 rfl).2.1
      have l25 : σ'.lookup 25 = some (aP b17 0) := (hA 1 rfl).1.trans (congrArg some hx1)
      refine L.nilck l25 rfl ?_
      exact L.last (G.fin [] ⟨rfl, rfl⟩ rfl)
    · intro X posts σ' Ωf hsb hA
      have hx2 := (hA 2 rfl).2.1
      have l26 : σ'.lookup 26 = some (aP b17 0) := (hA 2 rfl).1.trans (congrArg some hx2)
      refine L.fa Tryz.underlying89 rfl s87 l26 rfl ?_
      exact L.last (G.fin [] ⟨rfl, rfl⟩ rfl)
    · intro X posts σ' Ωf hsb hA
      have hx3 := (hA 3 rfl).2.1
      have l27 : σ'.lookup 27 = some (aP b17 1) := (hA 3 rfl).1.trans (congrArg some hx3)
      refine L.ld 2 o87 l27 rfl rfl rfl ?_
      exact L.last (G.fin [] ⟨rfl, rfl⟩ rfl)
    · intro X posts σ' Ωf hsb hA
      refine L.ldg (ys := t.cs) 3 a32 s32 (hsb.get rfl) rfl (by rw [List.drop_zero]; exact List.take_of_length_le (by show t.cs.length ≤ 8; rw [Tr.cs_d, List.length_map, Tr.d_len]; exact Nat.le_refl _)) (by rw [Tr.cs_d, List.length_map, Tr.d_len]) rfl ?_
      exact L.last (G.fin [] ⟨rfl, rfl⟩ rfl)
    · intro X posts σ' Ωf hsb hA
      refine L.fa Tryz.underlying54 rfl s52 (hsb.get rfl) rfl ?_
      exact L.last (G.fin [] ⟨rfl, rfl⟩ rfl)
    · intro X posts σ' Ωf hsb hA
      have hx6 := (hA 6 rfl).2.1
      have l30 : σ'.lookup 30 = some (aP b9 0) := (hA 6 rfl).1.trans (congrArg some hx6)
      refine L.ld 0 o52 l30 rfl rfl rfl ?_
      exact L.last (G.fin [] ⟨rfl, rfl⟩ rfl)
    · intro X posts σ' Ωf hsb hA
      have hx5 := (hA 5 rfl).2.1
      have l29 : σ'.lookup 29 = some (.v (.g (t.cs))) := (hA 5 rfl).1.trans (congrArg some hx5)
      have hx7 := (hA 7 rfl).2.1
      have l31 : σ'.lookup 31 = some (aD (.l 4 (sel ls[k].1))) := (hA 7 rfl).1.trans (congrArg some hx7)
      refine L.call e10 (evs2t l29 l31) rfl (f10 ls[k].1 (hsel _ (List.getElem_mem hlt)) t hok (by omega)) ?_
      rintro _ _ ⟨rfl, rfl⟩
      exact L.last (G.fin [] ⟨rfl, rfl⟩ rfl)
    · intro X posts σ' Ωf hsb hA
      have hx8 := (hA 8 rfl).2.1
      have l32 : σ'.lookup 32 = some (aL 1 (ints (allM ls[k].1 t))) := (hA 8 rfl).1.trans (congrArg some hx8)
      refine L.bsD rfl Tryz.underlying87 i49 rfl rfl (evp1 l32) rfl rfl ?_
      exact L.last (G.fin [] ⟨rfl, rfl⟩ rfl)
    · intro X posts σ' Ωf hsb hA
      have hx4 := (hA 4 rfl).2.1
      have l28 : σ'.lookup 28 = some (aR v) := (hA 4 rfl).1.trans (congrArg some hx4)
      have hx9 := (hA 9 rfl).2.1
      have l33 : σ'.lookup 33 = some (aL 1 [[D.l 1 (ints (allM ls[k].1 t))]]) := (hA 9 rfl).1.trans (congrArg some hx9)
      refine L.app 0 Tryz.underlying87 i49 rfl rfl l28 l33 rfl (by rw [fit_len, List.length_take]; show (_ + 1) * 24 ≤ _; omega) (by rw [fit_len, List.length_take]; show _ + 1 ≤ _; omega) rfl (fun _ => rfl) fun v34 => ?_
      exact L.last (G.fin [_] ⟨v34, rfl, rfl⟩ rfl)
    intro X posts hR
    obtain ⟨hx0, hp0⟩ : X 0 = aP b17 0 ∧ posts 0 = [] := hR 0 rfl
    obtain ⟨hx1, hp1⟩ : X 1 = aP b17 0 ∧ posts 1 = [] := hR 1 rfl
    obtain ⟨hx2, hp2⟩ : X 2 = aP b17 0 ∧ posts 2 = [] := hR 2 rfl
    obtain ⟨hx3, hp3⟩ : X 3 = aP b17 1 ∧ posts 3 = [] := hR 3 rfl
    obtain ⟨hx4, hp4⟩ : X 4 = aR v ∧ posts 4 = [] := hR 4 rfl
    obtain ⟨hx5, hp5⟩ : X 5 = .v (.g (t.cs)) ∧ posts 5 = [] := hR 5 rfl
    obtain ⟨hx6, hp6⟩ : X 6 = aP b9 0 ∧ posts 6 = [] := hR 6 rfl
    obtain ⟨hx7, hp7⟩ : X 7 = aD (.l 4 (sel ls[k].1)) ∧ posts 7 = [] := hR 7 rfl
    obtain ⟨hx8, hp8⟩ : X 8 = aL 1 (ints (allM ls[k].1 t)) ∧ posts 8 = [] := hR 8 rfl
    obtain ⟨hx9, hp9⟩ : X 9 = aL 1 [[D.l 1 (ints (allM ls[k].1 t))]] ∧ posts 9 = [] := hR 9 rfl
    obtain ⟨v34, hx10, hp10⟩ : ∃ v34, X 10 = aR v34 ∧ posts 10 = [.row v34 49 1 ((fitS ((allF ls t).take k)) ++ [[D.l 1 (ints (allM ls[k].1 t))]])] := hR 10 rfl
    have hpp : (List.range 11).flatMap (leftC 11 (fun i => ([] : List (Option Nat)).getD i none) posts) = [.row v34 49 1 ((fitS ((allF ls t).take k)) ++ [[D.l 1 (ints (allM ls[k].1 t))]])] := by
      show posts 0 ++ (posts 1 ++ (posts 2 ++ (posts 3 ++ (posts 4 ++ (posts 5 ++ (posts 6 ++ (posts 7 ++ (posts 8 ++ (posts 9 ++ (posts 10 ++ [])))))))))) = _
      simp only [hp0, hp1, hp2, hp3, hp4, hp5, hp6, hp7, hp8, hp9, hp10, List.nil_append, List.append_nil] <;> rfl
    rw [hpp]
    refine L.sub (σ' := [(34, aR v34), (24, aP b17 0), (20, aN k), (19, aN (lisS ls).length), (18, aL 3 (lisS ls)), (9, aP b9 0), (7, aP b7 0), (3, aP b3 0), (1, aN x)]) ⟨congrArg some hx10, congrArg some hx0, rfl, rfl, rfl, rfl, rfl, rfl, rfl, trivial⟩ ?_
    refine L.nilck rfl rfl ?_
    refine L.fa Tryz.underlying89 rfl s87 rfl rfl ?_
    refine L.sto 3 s87 rfl rfl rfl rfl rfl ?_
    refine L.last ?_
    refine T.go (fun _ _ h => h) ?_
    refine T.region ?_
    refine L.ar ((k + 1 : Nat) : Int) rfl rfl rfl (by omega) rfl ?_
    refine L.mv rfl rfl ?_
    refine L.last ?_
    refine G.conv (drop_at (i := 1) rfl rfl) ?_
    refine G.round (ls.length - (k + 1)) _ (by omega) ⟨k + 1, v34, by omega, rfl, rfl, by rw [allF_take hlt]⟩ (by repeat constructor)
  · skip
    have hge : ls.length ≤ k := by have := of_decide_eq_false h21; omega
    refine T.exit ?_
    refine T.go (fun _ _ h => h) ?_
    refine T.rg ?_
    have hkt : (allF ls t).take k = allF ls t := List.take_of_length_le (by omega)
    rw [hkt]
    refine L.conv (cell_pub (j := 2) (o := 1) (i := 0) (sz := 1) rfl rfl rfl rfl rfl rfl) ?_
    refine L.ldg (ys := t.cs) 2 a32 s32 rfl rfl (by rw [List.drop_zero]; exact List.take_of_length_le (by show t.cs.length ≤ 8; rw [Tr.cs_d, List.length_map, Tr.d_len]; exact Nat.le_refl _)) (by rw [Tr.cs_d, List.length_map, Tr.d_len]) rfl ?_
    refine L.mv rfl rfl ?_
    refine L.call e9 rfl rfl (f9 t hok (by omega) x) ?_
    rintro _ _ ⟨rfl, rfl⟩
    have hpl := pathM_len t x
    refine L.as rfl rfl ?_
    refine L.nil ?_
    refine T.of_seq ?_
    refine T.rg ?_
    refine L.mv rfl rfl ?_
    refine L.lenL Tryz.underlying49 rfl rfl fun hl42 => ?_
    rw [ints_len] at hl42 ⊢
    refine L.mv rfl rfl ?_
    refine L.nil ?_
    refine T.block ?_
    refine T.conv (nil_row 57 2) ?_
    refine T.conv (fun w hs => hs.perm ((List.Perm.swap _ _ _).cons _)) ?_
    refine T.loop (fun m σ Ω => ∃ (k : Nat) (v : Value) (s : RoundV), k ≤ (pathM t x).length ∧ m = (pathM t x).length - k ∧ (seqM ls (allF ls t) true (pathM t x) ([], false)) = seqM ls (allF ls t) true ((pathM t x).drop k) s ∧ s.1.length ≤ k * 100 ∧ σ = [(43, aN k), (42, aN (pathM t x).length), (41, aL 1 (ints (pathM t x))), (10, aL 1 (ints (pathM t x))), (7, aP b7 0)] ∧ Ω = [.row v 57 2 (calS s.1), .blk b17 89 [.d (.l 3 (lisS ls)), .d (.l 1 (fitS (allF ls t))), .r v, .d (.b s.2)], .blk b7 86 [.p b17 0], .blk b3 32 t.cs]) ((pathM t x).length) _ (⟨0, _, ([], false), Nat.zero_le _, rfl, rfl, Nat.zero_le _, rfl, rfl⟩) (by repeat constructor) ?_
    rintro m σ Ω ⟨k, v, s, hk, rfl, hsk, hsl, rfl, rfl⟩
    refine T.rg ?_
    refine L.cmp rfl rfl rfl rfl ?_
    refine L.nil ?_
    refine T.of_seq ?_
    refine T.cond rfl (fun h44 => ?_) (fun h44 => ?_)
    · skip
      have hlt : k < (pathM t x).length := by have := of_decide_eq_true h44; omega
      refine T.skip ?_
      refine T.go (fun _ _ h => h) ?_
      refine T.of_seq ?_
      refine T.block ?_
      refine T.rg ?_
      refine L.ixL k _ Tryz.underlying49 s3 rfl rfl rfl (ints_get hlt) rfl ?_
      refine L.li o3 rfl rfl ?_
      refine L.as rfl rfl ?_
      refine L.nil ?_
      refine T.rg ?_
      refine L.ld 2 o86 rfl rfl rfl rfl ?_
      refine L.nilck rfl rfl ?_
      refine L.fa Tryz.underlying89 rfl s4 rfl rfl ?_
      refine L.ld 1 o4 rfl rfl rfl rfl ?_
      refine L.not rfl rfl ?_
      refine L.nil ?_
      refine T.cond rfl (fun h51 => ?_) (fun h51 => ?_)
      · skip
        have hs2 : s.2 = false := by simpa using h51
        refine T.region ?_
        refine L.ld 2 o86 rfl rfl rfl rfl ?_
        refine L.mv rfl rfl ?_
        refine L.callO [] [_, _] [_, _] rfl e22 rfl rfl (f22 ls (allF ls t) (by rw [allF_len]) (by omega) b17 v (pathM t x)[k] true s (by omega)) ?_
        rintro _ _ ⟨rfl, v2, rfl⟩
        refine L.last ?_
        refine T.go (fun _ _ h => h) ?_
        refine T.region ?_
        refine L.ar ((k + 1 : Nat) : Int) rfl rfl rfl (by omega) rfl ?_
        refine L.mv rfl rfl ?_
        refine L.last ?_
        refine G.round ((pathM t x).length - (k + 1)) _ (by omega) ⟨k + 1, v2, atM ls (allF ls t) (pathM t x)[k] true ls.length s, by omega, rfl, seq_step ls (allF ls t) true hlt hsk (by rw [hs2]; rfl), atM_len2 ls _ _ _ s hls hsl, rfl, rfl⟩ (by repeat constructor)
      · skip
        have hs2 : s.2 = true := by simpa using h51
        refine T.skip ?_
        refine T.go (fun _ _ h => h) ?_
        refine T.region ?_
        refine L.ar ((k + 1 : Nat) : Int) rfl rfl rfl (by omega) rfl ?_
        refine L.mv rfl rfl ?_
        refine L.last ?_
        refine G.round ((pathM t x).length - (k + 1)) _ (by omega) ⟨k + 1, v, s, by omega, rfl, seq_step ls (allF ls t) true hlt hsk (by rw [hs2]; rfl), by omega, rfl, rfl⟩ (by repeat constructor)
    · skip
      have hge : (pathM t x).length ≤ k := by have := of_decide_eq_false h44; omega
      refine T.exit ?_
      refine T.go (fun _ _ h => h) ?_
      refine T.of_seq ?_
      refine T.rg ?_
      have hdone : (seqM ls (allF ls t) true (pathM t x) ([], false)) = s := by rw [hsk, List.drop_of_length_le hge]; rfl
      clear hsk hl42
      refine L.mv rfl rfl ?_
      refine L.call e23 rfl rfl (f23 (pathM t x)) ?_
      rintro _ _ ⟨b, rfl, rfl⟩
      refine L.nil ?_
      refine T.block ?_
      refine T.rangeFunc (Ωi := [.blk b 49 [.d (.l 1 (ints (pathM t x)))]]) (N := (pathM t x).length) (el := fun k => [N_ (((pathM t x).length - 1 - k : Nat) : Int), N_ ((pathM t x).getD ((pathM t x).length - 1 - k) 0)]) (caps := [.pointer (some ⟨b, 0, none⟩)]) rfl rfl e42 rfl (iter42 (pathM t x) (by omega) b) [(7, aP b7 0)] ⟨rfl, trivial⟩ rfl rfl (by decide) (fun _ _ => rfl) (fun k Ω => ∃ (v : Value) (z : RoundV), seqM ls (allF ls t) false (pathM t x).reverse s = seqM ls (allF ls t) false ((pathM t x).reverse.drop k) z ∧ z.1.length ≤ ((pathM t x).length + k) * 100 ∧ Ω = [.row v 57 2 (calS z.1), .blk b17 89 [.d (.l 3 (lisS ls)), .d (.l 1 (fitS (allF ls t))), .r v, .d (.b z.2)], .blk b7 86 [.p b17 0], .blk b3 32 t.cs]) (fun _ _ => False) ⟨v, s, rfl, by omega, rfl⟩ (fun k σ1 Ω1 => σ1 = [(14, aN ((pathM t x).getD ((pathM t x).length - 1 - k) 0)), (7, aP b7 0)] ∧ (fun k Ω => ∃ (v : Value) (z : RoundV), seqM ls (allF ls t) false (pathM t x).reverse s = seqM ls (allF ls t) false ((pathM t x).reverse.drop k) z ∧ z.1.length ≤ ((pathM t x).length + k) * 100 ∧ Ω = [.row v 57 2 (calS z.1), .blk b17 89 [.d (.l 3 (lisS ls)), .d (.l 1 (fitS (allF ls t))), .r v, .d (.b z.2)], .blk b7 86 [.p b17 0], .blk b3 32 t.cs]) k Ω1) ?_ ?_ ?_ ?_
      · intro Cr k Ωu hds hk hJ
        refine T.region ?_
        refine L.as rfl rfl ?_
        refine L.last ?_
        exact G.ap _ ⟨rfl, hJ⟩ (by repeat constructor)
      · rintro Cr k σ1 Ω1 hds hk2 ⟨rfl, v, z, hsk, hsl, rfl⟩
        have hlt : k < (pathM t x).reverse.length := by rw [List.length_reverse]; exact hk2
        have hgd : (pathM t x).getD ((pathM t x).length - 1 - k) 0 = (pathM t x).reverse[k] := by rw [List.getElem_reverse, List.getD_eq_getElem?_getD, List.getElem?_eq_getElem (by omega)]; rfl
        rw [hgd]
        refine T.block ?_
        refine T.rg ?_
        refine L.ld 2 o86 rfl rfl rfl rfl ?_
        refine L.nilck rfl rfl ?_
        refine L.fa Tryz.underlying89 rfl s4 rfl rfl ?_
        refine L.ld 1 o4 rfl rfl rfl rfl ?_
        refine L.not rfl rfl ?_
        refine L.nil ?_
        refine T.cond rfl (fun h64 => ?_) (fun h64 => ?_)
        · skip
          have hs2 : z.2 = false := by simpa using h64
          refine T.region ?_
          refine L.ld 2 o86 rfl rfl rfl rfl ?_
          refine L.mv rfl rfl ?_
          refine L.callO [] [_, _] [_, _] rfl e22 rfl rfl (f22 ls (allF ls t) (by rw [allF_len]) (by omega) b17 v (pathM t x).reverse[k] false z (by omega)) ?_
          rintro _ _ ⟨rfl, v2, rfl⟩
          refine L.last ?_
          exact G.rp (Jx := fun _ _ => False) ⟨v2, atM ls (allF ls t) (pathM t x).reverse[k] false ls.length z, seq_step ls (allF ls t) false hlt hsk (by rw [hs2]; rfl), atM_len2 ls _ _ _ z hls hsl, rfl⟩
        · skip
          have hs2 : z.2 = true := by simpa using h64
          refine T.skip ?_
          exact G.rp (Jx := fun _ _ => False) ⟨v, z, seq_step ls (allF ls t) false hlt hsk (by rw [hs2]; rfl), by omega, rfl⟩
      · rintro D ΩN ⟨v2, s2, hsk, hsl2, rfl⟩
        have hfin : dispM ls t x = s2 := by unfold dispM; rw [hdone, hsk, List.drop_of_length_le (by rw [List.length_reverse]; exact Nat.le_refl _)]; rfl
        refine T.go (fun _ _ h => h) ?_
        refine T.rg ?_
        refine L.ld 4 o86 rfl rfl rfl rfl ?_
        refine L.nilck rfl rfl ?_
        refine L.fa Tryz.underlying89 rfl s47 rfl rfl ?_
        refine L.ld 3 o47 rfl rfl rfl rfl ?_
        refine L.as rfl rfl ?_
        refine L.nil ?_
        refine T.ret ?_
        refine G.pub 6 2 rfl rfl rfl ?_
        refine G.conv (drop_at (i := 4) rfl rfl) ?_
        refine G.conv (drop_at (i := 3) rfl rfl) ?_
        refine G.conv (drop_at (i := 2) rfl rfl) ?_
        refine G.conv (drop_at (i := 1) rfl rfl) ?_
        exact G.retM (A := []) (B := []) (res1 Tryz.results8 rfl) ⟨rfl, by rw [hfin]⟩
      · exact fun _ _ _ h => h.elim
end Go.Proofs.YtimimkdgofiloaaGreat
