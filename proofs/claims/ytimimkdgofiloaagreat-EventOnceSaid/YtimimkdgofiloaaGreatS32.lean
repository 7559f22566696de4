/- Listeners from their texts; a round of calls. Printed by gen.py. -/
import Derived.Test.YtimimkdgofiloaaGreatS31
import Derived.Test.YtimimkdgofiloaaGreatS9
namespace Go.Proofs.YtimimkdgofiloaaGreat
open Go Go.Q
abbrev EarV := ByteArray × Bool × Bool
def earS (l : List EarV) : List (List D) := l.map fun e => [D.s e.1, D.b e.2.1, D.b e.2.2]
theorem ear_len (l : List EarV) : (earS l).length = l.length := by simp [earS]
theorem ear_get {l : List EarV} {k : Nat} (h : k < l.length) : (earS l)[k]? = some [D.s l[k].1, D.b l[k].2.1, D.b l[k].2.2] := by simp [earS, h]
theorem lis_snoc (l : List LisV) (p : LisV) : lisS (l ++ [p]) = lisS l ++ [[D.l 4 (sel p.1), D.b p.2.1, D.b p.2.2]] := by simp [lisS]
def earF (e : EarV) : Option LisV := (readS (e.1.extract 0 24)).map fun ps => (ps, e.2.1, e.2.2)
def earsM (es : List EarV) : List LisV := (es.take 6).filterMap earF
theorem earK_some {es : List EarV} {k : Nat} (h : k < es.length) {ps : List SPart} (hr : readS (es[k].1.extract 0 24) = some ps) : (es.take (k + 1)).filterMap earF = (es.take k).filterMap earF ++ [(ps, es[k].2.1, es[k].2.2)] := by
  rw [List.take_add_one, List.getElem?_eq_getElem h, List.filterMap_append]
  simp [earF, hr]
theorem earK_none {es : List EarV} {k : Nat} (h : k < es.length) (hr : readS (es[k].1.extract 0 24) = none) : (es.take (k + 1)).filterMap earF = (es.take k).filterMap earF := by
  rw [List.take_add_one, List.getElem?_eq_getElem h, List.filterMap_append]
  simp [earF, hr]
theorem earK_len (es : List EarV) (k : Nat) : ((es.take k).filterMap earF).length ≤ k := Nat.le_trans (List.length_filterMap_le _ _) (List.length_take_le _ _)
def allF (ls : List LisV) (t : Tr) : List (List Int) := ls.map fun e => allM e.1 t
theorem allF_len (ls : List LisV) (t : Tr) : (allF ls t).length = ls.length := by simp [allF]
theorem allF_take {ls : List LisV} {t : Tr} {k : Nat} (h : k < ls.length) : fitS ((allF ls t).take (k + 1)) = fitS ((allF ls t).take k) ++ [[D.l 1 (ints (allM ls[k].1 t))]] := by
  rw [List.take_add_one, List.getElem?_eq_getElem (by rw [allF_len]; exact h)]
  simp [fitS, allF]
def seqM (ls : List LisV) (fits : List (List Int)) (c : Bool) : List Int → RoundV → RoundV
  | [], s => s
  | id :: l, s => seqM ls fits c l (if s.2 then s else atM ls fits id c ls.length s)
theorem seqM_drop (ls : List LisV) (fits : List (List Int)) (c : Bool) {l : List Int} {k : Nat} (h : k < l.length) (s : RoundV) : seqM ls fits c (l.drop k) s = seqM ls fits c (l.drop (k + 1)) (if s.2 then s else atM ls fits l[k] c ls.length s) := by
  rw [List.drop_eq_getElem_cons h]; rfl
def dispM (ls : List LisV) (t : Tr) (x : Int) : RoundV := seqM ls (allF ls t) false (pathM t x).reverse (seqM ls (allF ls t) true (pathM t x) ([], false))
set_option maxHeartbeats 1000000 in
theorem f11 (ls : List LisV) : Fc Tryz.prog 11 [L_ 3 (lisS ls)] [] (Just (aB (ls.any fun e => e.2.2))) := by
  refine Fc.enter Tryz.func11 rfl Tryz.ntmps11 rfl fun X w => ?_
  refine T.rg ?_
  refine L.as rfl rfl ?_
  refine L.nil ?_
  refine T.of_seq ?_
  refine T.rg ?_
  refine L.mv rfl rfl ?_
  refine L.lenL Tryz.underlying43 rfl rfl fun hl6 => ?_
  refine L.mv rfl rfl ?_
  refine L.nil ?_
  refine T.block ?_
  refine T.loop (fun m σ Ω => ∃ k : Nat, k ≤ ls.length ∧ m = ls.length - k ∧ ((ls.take k).any fun e => e.2.2) = false ∧ σ = [(7, aN k), (6, aN (lisS ls).length), (5, aL 3 (lisS ls))] ∧ Ω = []) (ls.length) _ (⟨0, Nat.zero_le _, rfl, rfl, rfl, rfl⟩) (by repeat constructor) ?_
  rintro m σ Ω ⟨k, hk, rfl, hall, rfl, rfl⟩
  have hll := lis_len ls
  refine T.rg ?_
  refine L.cmp rfl rfl rfl rfl ?_
  refine L.nil ?_
  refine T.of_seq ?_
  refine T.cond rfl (fun h8 => ?_) (fun h8 => ?_)
  · skip
    have hlt : k < ls.length := by have := of_decide_eq_true h8; omega
    refine T.skip ?_
    refine T.go (fun _ _ h => h) ?_
    refine T.of_seq ?_
    refine T.block ?_
    refine T.rg ?_
    refine L.ixL k _ Tryz.underlying43 s54 rfl rfl rfl (lis_get hlt) rfl ?_
    refine L.lig a54 s54 rfl rfl rfl rfl ?_
    refine L.alloc z54 rfl rfl fun b4 => ?_
    refine L.stog 0 s54 rfl rfl rfl rfl rfl rfl ?_
    refine L.nil ?_
    refine T.rg ?_
    refine L.fa Tryz.underlying54 rfl s4 rfl rfl ?_
    refine L.ld 0 o4 rfl rfl rfl rfl ?_
    refine L.nil ?_
    refine T.cond rfl (fun h12 => ?_) (fun h12 => ?_)
    · skip
      refine T.rg ?_
      refine L.as rfl rfl ?_
      refine L.nil ?_
      refine T.ret ?_
      refine G.conv (drop_at (i := 0) rfl rfl) ?_
      exact G.ret (res1 Tryz.results11 rfl) ⟨rfl, congrArg aB (by symm; rw [List.any_eq_true]; exact ⟨ls[k], List.getElem_mem hlt, h12⟩)⟩
    · skip
      refine T.skip ?_
      refine T.go (fun _ _ h => h) ?_
      refine T.region ?_
      refine L.ar ((k + 1 : Nat) : Int) rfl rfl rfl (by omega) rfl ?_
      refine L.mv rfl rfl ?_
      refine L.last ?_
      refine G.conv (drop_at (i := 0) rfl rfl) ?_
      refine G.round (ls.length - (k + 1)) _ (by omega) ⟨k + 1, by omega, rfl, by rw [take_snoc' ls k hlt, List.any_append, hall]; simpa using h12, rfl, rfl⟩ (by repeat constructor)
  · skip
    have hge : ls.length ≤ k := by have := of_decide_eq_false h8; omega
    refine T.exit ?_
    refine T.go (fun _ _ h => h) ?_
    refine T.rg ?_
    refine L.as rfl rfl ?_
    refine L.nil ?_
    refine T.ret ?_
    exact G.ret (res1 Tryz.results11 rfl) ⟨rfl, congrArg aB (by rw [List.take_of_length_le hge] at hall; exact hall.symm)⟩

set_option maxHeartbeats 4000000 in
theorem f7 (es : List EarV) : Fc Tryz.prog 7 [L_ 3 (earS es)] [] (Just (.t [L_ 3 (lisS (earsM es)), L_ 3 (lisS (earsM es))])) := by
  refine Fc.enter Tryz.func7 rfl Tryz.ntmps7 rfl fun X w => ?_
  refine T.rg ?_
  refine L.as rfl rfl ?_
  refine L.as rfl rfl ?_
  refine L.nil ?_
  refine T.rg ?_
  refine L.as rfl rfl ?_
  refine L.nil ?_
  refine T.rg ?_
  refine L.as rfl rfl ?_
  refine L.nil ?_
  refine T.of_seq ?_
  refine T.rg ?_
  refine L.as rfl rfl ?_
  refine L.nil ?_
  refine T.block ?_
  refine T.conv (nil_row 85 3) ?_
  refine T.conv (nil_row 54 3) ?_
  refine T.loop (fun m σ Ω => ∃ (k : Nat) (v4 v5 : Value), k ≤ es.length ∧ k ≤ 6 ∧ m = es.length - k ∧ σ = [(6, aN k), (5, aR v5), (4, aR v4), (0, aL 3 (earS es))] ∧ Ω = [.row v4 54 3 (lisS ((es.take k).filterMap earF)), .row v5 85 3 (lisS ((es.take k).filterMap earF))]) (es.length) _ (⟨0, _, _, Nat.zero_le _, by omega, rfl, rfl, rfl⟩) (by repeat constructor) ?_
  rintro m σ Ω ⟨k, v4, v5, hk, hk6, rfl, rfl, rfl⟩
  have hel := ear_len es
  have hkl := earK_len es k
  refine T.of_seq ?_
  refine T.rg ?_
  refine L.mv rfl rfl ?_
  refine L.mv rfl rfl ?_
  refine L.lenL Tryz.underlying23 rfl rfl fun hl16 => ?_
  refine L.cmp rfl rfl rfl rfl ?_
  refine L.mv rfl rfl ?_
  refine L.caseB 18 rfl (fun h18 => ?_) (fun h18 => ?_)
  · skip
    have hlt : k < es.length := by have := of_decide_eq_true h18; omega
    refine L.on rfl rfl ?_
    refine L.mv rfl rfl ?_
    refine L.on rfl rfl ?_
    refine L.cmp rfl rfl rfl rfl ?_
    refine L.pkT rfl rfl rfl ?_
    refine L.nil ?_
    refine T.cond rfl (fun h21 => ?_) (fun h21 => ?_)
    · skip
      have hk5 : k < 6 := by have := of_decide_eq_true h21; omega
      refine T.skip ?_
      refine T.go (fun _ _ h => h) ?_
      refine T.of_seq ?_
      refine T.block ?_
      refine T.rg ?_
      refine L.mv rfl rfl ?_
      refine L.mv rfl rfl ?_
      refine L.ixL k _ Tryz.underlying23 s77 rfl rfl rfl (ear_get hlt) rfl ?_
      refine L.fi Tryz.underlying77 rfl s9 rfl rfl ?_
      refine L.li o9 rfl rfl ?_
      refine L.call e19 rfl rfl (f19 es[k].1 24 (by omega)) ?_
      rintro _ _ ⟨rfl, rfl⟩
      have hcs : (es[k].1.extract 0 24).size ≤ 24 := by rw [ByteArray.size_extract]; omega
      refine L.as rfl rfl ?_
      refine L.nil ?_
      refine T.rg ?_
      refine L.mv rfl rfl ?_
      refine L.call e20 rfl rfl (f20 (es[k].1.extract 0 24) (by omega)) ?_
      rintro _ _ ⟨rfl, l, pl, e, rfl, hq⟩
      generalize hr : readS (es[k].1.extract 0 24) = r at hq
      refine L.mv rfl rfl ?_
      refine L.ex rfl rfl rfl ?_
      refine L.ex rfl rfl rfl ?_
      refine L.ex rfl rfl rfl ?_
      refine L.as rfl rfl ?_
      refine L.as rfl rfl ?_
      refine L.as rfl rfl ?_
      refine L.nil ?_
      refine T.rg ?_
      refine L.mv rfl rfl ?_
      refine L.call e21 rfl rfl (f21 (es[k].1.extract 0 24) (by omega)) ?_
      rintro _ _ ⟨rfl, l2, pl2, e2, rfl, hq2⟩
      rw [hr] at hq2
      refine L.mv rfl rfl ?_
      refine L.ex rfl rfl rfl ?_
      refine L.ex rfl rfl rfl ?_
      refine L.ex rfl rfl rfl ?_
      refine L.as rfl rfl ?_
      refine L.as rfl rfl ?_
      refine L.as rfl rfl ?_
      refine L.nil ?_
      refine T.rg ?_
      refine L.mv rfl rfl ?_
      refine L.cmp rfl rfl rfl rfl ?_
      refine L.mv rfl rfl ?_
      refine L.caseB 44 rfl (fun h44 => ?_) (fun h44 => ?_)
      · skip
        have he : e = 0 := of_decide_eq_true h44
        have hrd : r = some l ∧ l2 = l := by
          cases r with
          | none => have := hq.1; omega
          | some ps => exact ⟨by rw [hq.2.1], by rw [hq2.2, hq.2.1]⟩
        obtain ⟨hrd, rfl⟩ := hrd
        rw [hrd] at hr hq2; clear hq
        refine L.on rfl rfl ?_
        refine L.mv rfl rfl ?_
        refine L.on rfl rfl ?_
        refine L.cmp rfl rfl rfl rfl ?_
        refine L.pkT rfl rfl rfl ?_
        refine L.nil ?_
        refine T.cond rfl (fun h47 => ?_) (fun h47 => ?_)
        · skip
          refine T.of_seq ?_
          refine T.drawC 14 [(8, aL 4 (sel l2)), (11, aL 4 (sel l2)), (6, aN k), (5, aR v5), (4, aR v4), (0, aL 3 (earS es))] ([.row v4 54 3 (lisS ((es.take k).filterMap earF)), .row v5 85 3 (lisS ((es.take k).filterMap earF))]) (fun _ => []) [] (fun n x _ post => match n with
            | 0 => x = aR v4 ∧ post = []
            | 1 => x = aL 4 (sel l2) ∧ post = []
            | 2 => x = aL 3 (earS es) ∧ post = []
            | 3 => x = aN k ∧ post = []
            | 4 => x = .v (.c (.ip [D.s es[k].1, D.b es[k].2.1, D.b es[k].2.2])) ∧ post = []
            | 5 => x = .v (.c (.ip ([D.s es[k].1, D.b es[k].2.1, D.b es[k].2.2].drop 1))) ∧ post = []
            | 6 => x = aB es[k].2.1 ∧ post = []
            | 7 => x = aL 3 (earS es) ∧ post = []
            | 8 => x = aN k ∧ post = []
            | 9 => x = .v (.c (.ip [D.s es[k].1, D.b es[k].2.1, D.b es[k].2.2])) ∧ post = []
            | 10 => x = .v (.c (.ip ([D.s es[k].1, D.b es[k].2.1, D.b es[k].2.2].drop 2))) ∧ post = []
            | 11 => x = aB es[k].2.2 ∧ post = []
            | 12 => x = .v (.g [.d (.l 4 (sel l2)), .d (.b es[k].2.1), .d (.b es[k].2.2)]) ∧ post = []
            | 13 => x = aL 3 [[D.l 4 (sel l2), D.b es[k].2.1, D.b es[k].2.2]] ∧ post = []
            | _ => False) hmixed rfl rfl rfl (by repeat constructor) (List.Perm.refl _) rfl ⟨?_, ?_, ?_, ?_, ?_, ?_, ?_, ?_, ?_, ?_, ?_, ?_, ?_, ?_, trivial⟩ ?_
          · intro X posts σ' Ωf hsb hA
            refine L.mv (hsb.get rfl) rfl ?_
            exact L.last (G.fin [] ⟨rfl, rfl⟩ rfl)
          · intro X posts σ' Ωf hsb hA
            refine L.mv (hsb.get rfl) rfl ?_
            exact L.last (G.fin [] ⟨rfl, rfl⟩ rfl)
          · intro X posts σ' Ωf hsb hA
            refine L.mv (hsb.get rfl) rfl ?_
            exact L.last (G.fin [] ⟨rfl, rfl⟩ rfl)
          · intro X posts σ' Ωf hsb hA
            refine L.mv (hsb.get rfl) rfl ?_
            exact L.last (G.fin [] ⟨rfl, rfl⟩ rfl)
          · intro X posts σ' Ωf hsb hA
            have hx2 := (hA 2 rfl).2.1
            have l50 : σ'.lookup 50 = some (aL 3 (earS es)) := (hA 2 rfl).1.trans (congrArg some hx2)
            have hx3 := (hA 3 rfl).2.1
            have l51 : σ'.lookup 51 = some (aN k) := (hA 3 rfl).1.trans (congrArg some hx3)
            refine L.ixL k _ Tryz.underlying23 s77 l50 l51 rfl (ear_get hlt) rfl ?_
            exact L.last (G.fin [] ⟨rfl, rfl⟩ rfl)
          · intro X posts σ' Ωf hsb hA
            have hx4 := (hA 4 rfl).2.1
            have l52 : σ'.lookup 52 = some (.v (.c (.ip [D.s es[k].1, D.b es[k].2.1, D.b es[k].2.2]))) := (hA 4 rfl).1.trans (congrArg some hx4)
            refine L.fi Tryz.underlying77 rfl s4 l52 rfl ?_
            exact L.last (G.fin [] ⟨rfl, rfl⟩ rfl)
          · intro X posts σ' Ωf hsb hA
            have hx5 := (hA 5 rfl).2.1
            have l53 : σ'.lookup 53 = some (.v (.c (.ip ([D.s es[k].1, D.b es[k].2.1, D.b es[k].2.2].drop 1)))) := (hA 5 rfl).1.trans (congrArg some hx5)
            refine L.li o4 l53 rfl ?_
            exact L.last (G.fin [] ⟨rfl, rfl⟩ rfl)
          · intro X posts σ' Ωf hsb hA
            refine L.mv (hsb.get rfl) rfl ?_
            exact L.last (G.fin [] ⟨rfl, rfl⟩ rfl)
          · intro X posts σ' Ωf hsb hA
            refine L.mv (hsb.get rfl) rfl ?_
            exact L.last (G.fin [] ⟨rfl, rfl⟩ rfl)
          · intro X posts σ' Ωf hsb hA
            have hx7 := (hA 7 rfl).2.1
            have l55 : σ'.lookup 55 = some (aL 3 (earS es)) := (hA 7 rfl).1.trans (congrArg some hx7)
            have hx8 := (hA 8 rfl).2.1
            have l56 : σ'.lookup 56 = some (aN k) := (hA 8 rfl).1.trans (congrArg some hx8)
            refine L.ixL k _ Tryz.underlying23 s77 l55 l56 rfl (ear_get hlt) rfl ?_
            exact L.last (G.fin [] ⟨rfl, rfl⟩ rfl)
          · intro X posts σ' Ωf hsb hA
            have hx9 := (hA 9 rfl).2.1
            have l57 : σ'.lookup 57 = some (.v (.c (.ip [D.s es[k].1, D.b es[k].2.1, D.b es[k].2.2]))) := (hA 9 rfl).1.trans (congrArg some hx9)
            refine L.fi Tryz.underlying77 rfl s4 l57 rfl ?_
            exact L.last (G.fin [] ⟨rfl, rfl⟩ rfl)
          · intro X posts σ' Ωf hsb hA
            have hx10 := (hA 10 rfl).2.1
            have l58 : σ'.lookup 58 = some (.v (.c (.ip ([D.s es[k].1, D.b es[k].2.1, D.b es[k].2.2].drop 2)))) := (hA 10 rfl).1.trans (congrArg some hx10)
            refine L.li o4 l58 rfl ?_
            exact L.last (G.fin [] ⟨rfl, rfl⟩ rfl)
          · intro X posts σ' Ωf hsb hA
            have hx1 := (hA 1 rfl).2.1
            have l49 : σ'.lookup 49 = some (aL 4 (sel l2)) := (hA 1 rfl).1.trans (congrArg some hx1)
            have hx6 := (hA 6 rfl).2.1
            have l54 : σ'.lookup 54 = some (aB es[k].2.1) := (hA 6 rfl).1.trans (congrArg some hx6)
            have hx11 := (hA 11 rfl).2.1
            have l59 : σ'.lookup 59 = some (aB es[k].2.2) := (hA 11 rfl).1.trans (congrArg some hx11)
            refine L.bld p54 z54 rfl rfl (evpC l49 (evpC l54 (evpC l59 evpN))) rfl rfl ?_
            exact L.last (G.fin [] ⟨rfl, rfl⟩ rfl)
          · intro X posts σ' Ωf hsb hA
            have hx12 := (hA 12 rfl).2.1
            have l60 : σ'.lookup 60 = some (.v (.g [.d (.l 4 (sel l2)), .d (.b es[k].2.1), .d (.b es[k].2.2)])) := (hA 12 rfl).1.trans (congrArg some hx12)
            refine L.bsD rfl Tryz.underlying43 i54 rfl rfl (evp1 l60) rfl rfl ?_
            exact L.last (G.fin [] ⟨rfl, rfl⟩ rfl)
          intro X posts hR
          obtain ⟨hx0, hp0⟩ : X 0 = aR v4 ∧ posts 0 = [] := hR 0 rfl
          obtain ⟨hx1, hp1⟩ : X 1 = aL 4 (sel l2) ∧ posts 1 = [] := hR 1 rfl
          obtain ⟨hx2, hp2⟩ : X 2 = aL 3 (earS es) ∧ posts 2 = [] := hR 2 rfl
          obtain ⟨hx3, hp3⟩ : X 3 = aN k ∧ posts 3 = [] := hR 3 rfl
          obtain ⟨hx4, hp4⟩ : X 4 = .v (.c (.ip [D.s es[k].1, D.b es[k].2.1, D.b es[k].2.2])) ∧ posts 4 = [] := hR 4 rfl
          obtain ⟨hx5, hp5⟩ : X 5 = .v (.c (.ip ([D.s es[k].1, D.b es[k].2.1, D.b es[k].2.2].drop 1))) ∧ posts 5 = [] := hR 5 rfl
          obtain ⟨hx6, hp6⟩ : X 6 = aB es[k].2.1 ∧ posts 6 = [] := hR 6 rfl
          obtain ⟨hx7, hp7⟩ : X 7 = aL 3 (earS es) ∧ posts 7 = [] := hR 7 rfl
          obtain ⟨hx8, hp8⟩ : X 8 = aN k ∧ posts 8 = [] := hR 8 rfl
          obtain ⟨hx9, hp9⟩ : X 9 = .v (.c (.ip [D.s es[k].1, D.b es[k].2.1, D.b es[k].2.2])) ∧ posts 9 = [] := hR 9 rfl
          obtain ⟨hx10, hp10⟩ : X 10 = .v (.c (.ip ([D.s es[k].1, D.b es[k].2.1, D.b es[k].2.2].drop 2))) ∧ posts 10 = [] := hR 10 rfl
          obtain ⟨hx11, hp11⟩ : X 11 = aB es[k].2.2 ∧ posts 11 = [] := hR 11 rfl
          obtain ⟨hx12, hp12⟩ : X 12 = .v (.g [.d (.l 4 (sel l2)), .d (.b es[k].2.1), .d (.b es[k].2.2)]) ∧ posts 12 = [] := hR 12 rfl
          obtain ⟨hx13, hp13⟩ : X 13 = aL 3 [[D.l 4 (sel l2), D.b es[k].2.1, D.b es[k].2.2]] ∧ posts 13 = [] := hR 13 rfl
          have hpp : (List.range 14).flatMap (leftC 14 (fun i => ([] : List (Option Nat)).getD i none) posts) = [] := by
            show posts 0 ++ (posts 1 ++ (posts 2 ++ (posts 3 ++ (posts 4 ++ (posts 5 ++ (posts 6 ++ (posts 7 ++ (posts 8 ++ (posts 9 ++ (posts 10 ++ (posts 11 ++ (posts 12 ++ (posts 13 ++ []))))))))))))) = _
            simp only [hp0, hp1, hp2, hp3, hp4, hp5, hp6, hp7, hp8, hp9, hp10, hp11, hp12, hp13, List.append_nil]
          rw [hpp]
          refine L.sub (σ' := [(48, aR v4), (61, aL 3 [[D.l 4 (sel l2), D.b es[k].2.1, D.b es[k].2.2]]), (8, aL 4 (sel l2)), (11, aL 4 (sel l2)), (6, aN k), (5, aR v5), (4, aR v4), (0, aL 3 (earS es))]) ⟨congrArg some hx0, congrArg some hx13, rfl, rfl, rfl, rfl, rfl, rfl, trivial⟩ ?_
          refine L.app 0 Tryz.underlying43 i54 rfl rfl rfl rfl rfl (by rw [lis_len]; simp; omega) (by rw [lis_len]; simp; omega) rfl (fun _ => rfl) fun v62 => ?_
          refine L.as rfl rfl ?_
          refine L.last ?_
          refine T.go (fun _ _ h => h) ?_
          refine T.drawC 14 [(8, aL 4 (sel l2)), (11, aL 4 (sel l2)), (6, aN k), (5, aR v5), (4, aR v62), (0, aL 3 (earS es))] ([.row v62 54 3 (lisS ((es.take k).filterMap earF) ++ [[D.l 4 (sel l2), D.b es[k].2.1, D.b es[k].2.2]]), .row v5 85 3 (lisS ((es.take k).filterMap earF))]) (fun _ => []) [] (fun n x _ post => match n with
            | 0 => x = aR v5 ∧ post = []
            | 1 => x = aL 4 (sel l2) ∧ post = []
            | 2 => x = aL 3 (earS es) ∧ post = []
            | 3 => x = aN k ∧ post = []
            | 4 => x = .v (.c (.ip [D.s es[k].1, D.b es[k].2.1, D.b es[k].2.2])) ∧ post = []
            | 5 => x = .v (.c (.ip ([D.s es[k].1, D.b es[k].2.1, D.b es[k].2.2].drop 1))) ∧ post = []
            | 6 => x = aB es[k].2.1 ∧ post = []
            | 7 => x = aL 3 (earS es) ∧ post = []
            | 8 => x = aN k ∧ post = []
            | 9 => x = .v (.c (.ip [D.s es[k].1, D.b es[k].2.1, D.b es[k].2.2])) ∧ post = []
            | 10 => x = .v (.c (.ip ([D.s es[k].1, D.b es[k].2.1, D.b es[k].2.2].drop 2))) ∧ post = []
            | 11 => x = aB es[k].2.2 ∧ post = []
            | 12 => x = .v (.g [.d (.l 4 (sel l2)), .d (.b es[k].2.1), .d (.b es[k].2.2)]) ∧ post = []
            | 13 => x = aL 3 [[D.l 4 (sel l2), D.b es[k].2.1, D.b es[k].2.2]] ∧ post = []
            | _ => False) hmixed rfl rfl rfl (by repeat constructor) (List.Perm.refl _) rfl ⟨?_, ?_, ?_, ?_, ?_, ?_, ?_, ?_, ?_, ?_, ?_, ?_, ?_, ?_, trivial⟩ ?_
          · intro X posts σ' Ωf hsb hA
            refine L.mv (hsb.get rfl) rfl ?_
            exact L.last (G.fin [] ⟨rfl, rfl⟩ rfl)
          · intro X posts σ' Ωf hsb hA
            refine L.mv (hsb.get rfl) rfl ?_
            exact L.last (G.fin [] ⟨rfl, rfl⟩ rfl)
          · intro X posts σ' Ωf hsb hA
            refine L.mv (hsb.get rfl) rfl ?_
            exact L.last (G.fin [] ⟨rfl, rfl⟩ rfl)
          · intro X posts σ' Ωf hsb hA
            refine L.mv (hsb.get rfl) rfl ?_
            exact L.last (G.fin [] ⟨rfl, rfl⟩ rfl)
          · intro X posts σ' Ωf hsb hA
            have hx2 := (hA 2 rfl).2.1
            have l65 : σ'.lookup 65 = some (aL 3 (earS es)) := (hA 2 rfl).1.trans (congrArg some hx2)
            have hx3 := (hA 3 rfl).2.1
            have l66 : σ'.lookup 66 = some (aN k) := (hA 3 rfl).1.trans (congrArg some hx3)
            refine L.ixL k _ Tryz.underlying23 s77 l65 l66 rfl (ear_get hlt) rfl ?_
            exact L.last (G.fin [] ⟨rfl, rfl⟩ rfl)
          · intro X posts σ' Ωf hsb hA
            have hx4 := (hA 4 rfl).2.1
            have l67 : σ'.lookup 67 = some (.v (.c (.ip [D.s es[k].1, D.b es[k].2.1, D.b es[k].2.2]))) := (hA 4 rfl).1.trans (congrArg some hx4)
            refine L.fi Tryz.underlying77 rfl s4 l67 rfl ?_
            exact L.last (G.fin [] ⟨rfl, rfl⟩ rfl)
          · intro X posts σ' Ωf hsb hA
            have hx5 := (hA 5 rfl).2.1
            have l68 : σ'.lookup 68 = some (.v (.c (.ip ([D.s es[k].1, D.b es[k].2.1, D.b es[k].2.2].drop 1)))) := (hA 5 rfl).1.trans (congrArg some hx5)
            refine L.li o4 l68 rfl ?_
            exact L.last (G.fin [] ⟨rfl, rfl⟩ rfl)
          · intro X posts σ' Ωf hsb hA
            refine L.mv (hsb.get rfl) rfl ?_
            exact L.last (G.fin [] ⟨rfl, rfl⟩ rfl)
          · intro X posts σ' Ωf hsb hA
            refine L.mv (hsb.get rfl) rfl ?_
            exact L.last (G.fin [] ⟨rfl, rfl⟩ rfl)
          · intro X posts σ' Ωf hsb hA
            have hx7 := (hA 7 rfl).2.1
            have l70 : σ'.lookup 70 = some (aL 3 (earS es)) := (hA 7 rfl).1.trans (congrArg some hx7)
            have hx8 := (hA 8 rfl).2.1
            have l71 : σ'.lookup 71 = some (aN k) := (hA 8 rfl).1.trans (congrArg some hx8)
            refine L.ixL k _ Tryz.underlying23 s77 l70 l71 rfl (ear_get hlt) rfl ?_
            exact L.last (G.fin [] ⟨rfl, rfl⟩ rfl)
          · intro X posts σ' Ωf hsb hA
            have hx9 := (hA 9 rfl).2.1
            have l72 : σ'.lookup 72 = some (.v (.c (.ip [D.s es[k].1, D.b es[k].2.1, D.b es[k].2.2]))) := (hA 9 rfl).1.trans (congrArg some hx9)
            refine L.fi Tryz.underlying77 rfl s4 l72 rfl ?_
            exact L.last (G.fin [] ⟨rfl, rfl⟩ rfl)
          · intro X posts σ' Ωf hsb hA
            have hx10 := (hA 10 rfl).2.1
            have l73 : σ'.lookup 73 = some (.v (.c (.ip ([D.s es[k].1, D.b es[k].2.1, D.b es[k].2.2].drop 2)))) := (hA 10 rfl).1.trans (congrArg some hx10)
            refine L.li o4 l73 rfl ?_
            exact L.last (G.fin [] ⟨rfl, rfl⟩ rfl)
          · intro X posts σ' Ωf hsb hA
            have hx1 := (hA 1 rfl).2.1
            have l64 : σ'.lookup 64 = some (aL 4 (sel l2)) := (hA 1 rfl).1.trans (congrArg some hx1)
            have hx6 := (hA 6 rfl).2.1
            have l69 : σ'.lookup 69 = some (aB es[k].2.1) := (hA 6 rfl).1.trans (congrArg some hx6)
            have hx11 := (hA 11 rfl).2.1
            have l74 : σ'.lookup 74 = some (aB es[k].2.2) := (hA 11 rfl).1.trans (congrArg some hx11)
            refine L.bld p85 z85 rfl rfl (evpC l64 (evpC l69 (evpC l74 evpN))) rfl rfl ?_
            exact L.last (G.fin [] ⟨rfl, rfl⟩ rfl)
          · intro X posts σ' Ωf hsb hA
            have hx12 := (hA 12 rfl).2.1
            have l75 : σ'.lookup 75 = some (.v (.g [.d (.l 4 (sel l2)), .d (.b es[k].2.1), .d (.b es[k].2.2)])) := (hA 12 rfl).1.trans (congrArg some hx12)
            refine L.bsD rfl Tryz.underlying44 i85 rfl rfl (evp1 l75) rfl rfl ?_
            exact L.last (G.fin [] ⟨rfl, rfl⟩ rfl)
          intro X posts hR
          obtain ⟨hx0, hp0⟩ : X 0 = aR v5 ∧ posts 0 = [] := hR 0 rfl
          obtain ⟨hx1, hp1⟩ : X 1 = aL 4 (sel l2) ∧ posts 1 = [] := hR 1 rfl
          obtain ⟨hx2, hp2⟩ : X 2 = aL 3 (earS es) ∧ posts 2 = [] := hR 2 rfl
          obtain ⟨hx3, hp3⟩ : X 3 = aN k ∧ posts 3 = [] := hR 3 rfl
          obtain ⟨hx4, hp4⟩ : X 4 = .v (.c (.ip [D.s es[k].1, D.b es[k].2.1, D.b es[k].2.2])) ∧ posts 4 = [] := hR 4 rfl
          obtain ⟨hx5, hp5⟩ : X 5 = .v (.c (.ip ([D.s es[k].1, D.b es[k].2.1, D.b es[k].2.2].drop 1))) ∧ posts 5 = [] := hR 5 rfl
          obtain ⟨hx6, hp6⟩ : X 6 = aB es[k].2.1 ∧ posts 6 = [] := hR 6 rfl
          obtain ⟨hx7, hp7⟩ : X 7 = aL 3 (earS es) ∧ posts 7 = [] := hR 7 rfl
          obtain ⟨hx8, hp8⟩ : X 8 = aN k ∧ posts 8 = [] := hR 8 rfl
          obtain ⟨hx9, hp9⟩ : X 9 = .v (.c (.ip [D.s es[k].1, D.b es[k].2.1, D.b es[k].2.2])) ∧ posts 9 = [] := hR 9 rfl
          obtain ⟨hx10, hp10⟩ : X 10 = .v (.c (.ip ([D.s es[k].1, D.b es[k].2.1, D.b es[k].2.2].drop 2))) ∧ posts 10 = [] := hR 10 rfl
          obtain ⟨hx11, hp11⟩ : X 11 = aB es[k].2.2 ∧ posts 11 = [] := hR 11 rfl
          obtain ⟨hx12, hp12⟩ : X 12 = .v (.g [.d (.l 4 (sel l2)), .d (.b es[k].2.1), .d (.b es[k].2.2)]) ∧ posts 12 = [] := hR 12 rfl
          obtain ⟨hx13, hp13⟩ : X 13 = aL 3 [[D.l 4 (sel l2), D.b es[k].2.1, D.b es[k].2.2]] ∧ posts 13 = [] := hR 13 rfl
          have hpp : (List.range 14).flatMap (leftC 14 (fun i => ([] : List (Option Nat)).getD i none) posts) = [] := by
            show posts 0 ++ (posts 1 ++ (posts 2 ++ (posts 3 ++ (posts 4 ++ (posts 5 ++ (posts 6 ++ (posts 7 ++ (posts 8 ++ (posts 9 ++ (posts 10 ++ (posts 11 ++ (posts 12 ++ (posts 13 ++ []))))))))))))) = _
            simp only [hp0, hp1, hp2, hp3, hp4, hp5, hp6, hp7, hp8, hp9, hp10, hp11, hp12, hp13, List.append_nil]
          rw [hpp]
          refine L.sub (σ' := [(63, aR v5), (76, aL 3 [[D.l 4 (sel l2), D.b es[k].2.1, D.b es[k].2.2]]), (8, aL 4 (sel l2)), (11, aL 4 (sel l2)), (6, aN k), (5, aR v5), (4, aR v62), (0, aL 3 (earS es))]) ⟨congrArg some hx0, congrArg some hx13, rfl, rfl, rfl, rfl, rfl, rfl, trivial⟩ ?_
          refine L.app 1 Tryz.underlying44 i85 rfl rfl rfl rfl rfl (by rw [lis_len]; simp; omega) (by rw [lis_len]; simp; omega) rfl (fun _ => rfl) fun v77 => ?_
          refine L.as rfl rfl ?_
          refine L.last ?_
          refine T.go (fun _ _ h => h) ?_
          refine T.region ?_
          refine L.mv rfl rfl ?_
          refine L.ar ((k + 1 : Nat) : Int) rfl rfl rfl (by omega) rfl ?_
          refine L.as rfl rfl ?_
          refine L.last ?_
          refine G.round (es.length - (k + 1)) _ (by omega) ⟨k + 1, v62, v77, by omega, by omega, rfl, rfl, by rw [earK_some hlt hr, lis_snoc]⟩ (by repeat constructor)
        · skip
          exfalso
          have he2 : ¬ e2 = 0 := of_decide_eq_false h47
          exact he2 hq2.1
      · skip
        have he : ¬ e = 0 := of_decide_eq_false h44
        have hrd : readS (es[k].1.extract 0 24) = none := by
          rw [hr]
          cases r with
          | none => rfl
          | some ps => exact absurd hq.1 he
        clear hq hq2
        refine L.off rfl rfl rfl rfl ?_
        refine L.off rfl rfl rfl rfl ?_
        refine L.pkF rfl rfl rfl ?_
        refine L.nil ?_
        refine T.condF rfl ?_
        refine T.skip ?_
        refine T.go (fun _ _ h => h) ?_
        refine T.region ?_
        refine L.mv rfl rfl ?_
        refine L.ar ((k + 1 : Nat) : Int) rfl rfl rfl (by omega) rfl ?_
        refine L.as rfl rfl ?_
        refine L.last ?_
        refine G.round (es.length - (k + 1)) _ (by omega) ⟨k + 1, v4, v5, by omega, by omega, rfl, rfl, by rw [earK_none hlt hrd]; rfl⟩ (by repeat constructor)
    · skip
      have hge : 6 ≤ k := by have := of_decide_eq_false h21; omega
      refine T.exit ?_
      refine T.go (fun _ _ h => h) ?_
      refine T.rg ?_
      refine L.mv rfl rfl ?_
      refine L.mv rfl rfl ?_
      refine L.as rfl rfl ?_
      refine L.as rfl rfl ?_
      refine L.nil ?_
      refine T.ret ?_
      refine G.pub 2 0 rfl rfl rfl ?_
      refine G.pub 3 0 rfl rfl rfl ?_
      refine G.ret (res2 Tryz.results7 rfl rfl) ?_
      refine ⟨rfl, ?_⟩
      have htk : es.take k = es.take 6 := by
        by_cases h6 : 6 ≤ k
        · rw [show k = 6 by omega]
        · rw [List.take_of_length_le (by omega), List.take_of_length_le (by omega)]
      unfold earsM
      rw [← htk]
  · skip
    have hge : es.length ≤ k := by have := of_decide_eq_false h18; omega
    refine L.off rfl rfl rfl rfl ?_
    refine L.off rfl rfl rfl rfl ?_
    refine L.pkF rfl rfl rfl ?_
    refine L.nil ?_
    refine T.condF rfl ?_
    refine T.exit ?_
    refine T.go (fun _ _ h => h) ?_
    refine T.rg ?_
    refine L.mv rfl rfl ?_
    refine L.mv rfl rfl ?_
    refine L.as rfl rfl ?_
    refine L.as rfl rfl ?_
    refine L.nil ?_
    refine T.ret ?_
    refine G.pub 2 0 rfl rfl rfl ?_
    refine G.pub 3 0 rfl rfl rfl ?_
    refine G.ret (res2 Tryz.results7 rfl rfl) ?_
    refine ⟨rfl, ?_⟩
    have htk : es.take k = es.take 6 := by
      by_cases h6 : 6 ≤ k
      · rw [show k = 6 by omega]
      · rw [List.take_of_length_le (by omega), List.take_of_length_le (by omega)]
    unfold earsM
    rw [← htk]
end Go.Proofs.YtimimkdgofiloaaGreat
