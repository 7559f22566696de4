/- A text cut at '=' or at a quote; what a name's map tells; the reader of the notation: blanks, the next byte. Printed by gen.py. -/
import Derived.Test.YtimimkdgofiloaaGreatDoorS53
import Derived.Test.YtimimkdgofiloaaGreatDoorS4
import Derived.Test.YtimimkdgofiloaaGreatDoorQz
namespace Go.Proofs.YtimimkdgofiloaaGreatDoor
open Go Go.Q
abbrev oneB (c : UInt8) : ByteArray := ⟨#[c]⟩
theorem idxC (l : List UInt8) (c : UInt8) : Lib.indexByte l c = -1 ∨ ∃ m : Nat, Lib.indexByte l c = (m : Int) ∧ m < l.length := by
  have hge := Lib.indexByte_ge l c
  rcases Int.lt_or_le (Lib.indexByte l c) 0 with h | h
  · exact .inl (by omega)
  · obtain ⟨m, hm⟩ := Int.eq_ofNat_of_zero_le h
    obtain ⟨h1, _⟩ := Lib.indexByte_some hm
    exact .inr ⟨m, hm, (List.getElem?_eq_some_iff.1 h1).1⟩
/-- What a cut yields: two texts no longer than the whole. -/
def CutIs (t : ByteArray) (x : AV) : Prop := ∃ (a b : ByteArray) (ok : Bool), x = .t [S_ a, S_ b, Bo ok] ∧ a.size ≤ t.size ∧ b.size ≤ t.size ∧ (ok = true → a.size + b.size + 1 = t.size)
/-- The notation's reader. -/
abbrev rn (b : Nat) (s : ByteArray) (k : Nat) (d : Int) : Ob := .blk b 90 [.d (.s s), .d (.i .i64 (k : Int)), .d (.i .i64 d)]
/-- What fail throws. -/
def Wr (u : Value) : Prop := ∃ m k : Int, u = .iface 86 (.agg #[.int .i64 m, .int .i64 k])
/-- A map of counts. -/
abbrev cntM (g : Nat) (ps : List (ByteArray × Int)) : Ob := mapB g (ps.map fun p => (p.1, .c (.d (.i .i64 p.2))))
theorem cnt_look (ps : List (ByteArray × Int)) (k : ByteArray) : ∃ m : Int, (lookV (ps.map fun p => (p.1, SV.c (.d (.i .i64 p.2)))) k).getD (.c (.d (.i .i64 0))) = .c (.d (.i .i64 m)) := by
  induction ps with
  | nil => exact ⟨0, rfl⟩
  | cons p ps ih =>
    rw [List.map_cons, lookV]
    split
    · exact ⟨p.2, rfl⟩
    · exact ih
theorem cnt_put (ps : List (ByteArray × Int)) (k : ByteArray) (m : Int) : ∃ ps2 : List (ByteArray × Int), putV (ps.map fun p => (p.1, SV.c (.d (.i .i64 p.2)))) k (.c (.d (.i .i64 m))) = ps2.map fun p => (p.1, SV.c (.d (.i .i64 p.2))) := by
  induction ps with
  | nil => exact ⟨[(k, m)], rfl⟩
  | cons p ps ih =>
    obtain ⟨ps2, h⟩ := ih
    rw [List.map_cons, putV]
    split
    · exact ⟨(k, m) :: ps, rfl⟩
    · exact ⟨p :: ps2, by rw [h]; rfl⟩
set_option maxHeartbeats 1000000 in
theorem f34c61 (l : List UInt8) : Fc Tryz.prog 34 [S_ (mkB l), S_ (oneB 61)] [] (Just (aN (Lib.indexByte l 61))) := by
  refine Fc.enter Tryz.func34 rfl Tryz.ntmps34 rfl fun X w => ?_
  refine T.rg ?_
  refine L.as rfl rfl ?_
  refine L.nil ?_
  refine T.rg ?_
  refine L.mv rfl rfl ?_
  refine L.lenS Tryz.underlying9 rfl rfl ?_
  refine L.as rfl rfl ?_
  refine L.nil ?_
  refine T.of_seq ?_
  refine T.block ?_
  refine T.rg ?_
  refine L.mv rfl rfl ?_
  refine L.cmp rfl rfl rfl rfl ?_
  refine L.setB (t := 18) (b' := false) rfl (by decide) ?_
  refine L.mv rfl rfl ?_
  refine L.on rfl rfl ?_
  refine L.mv rfl rfl ?_
  refine L.on rfl rfl ?_
  refine L.mv rfl rfl ?_
  refine L.on rfl rfl ?_
  refine L.eqS rfl rfl rfl ?_
  refine L.pkF rfl rfl rfl ?_
  refine L.as rfl rfl ?_
  refine L.nil ?_
  refine T.cond rfl (fun h16 => ?_) (fun h16 => ?_)
  · skip
    obtain rfl : [61] = l := by rw [← mkB_inj]; exact of_decide_eq_true h16
    refine T.rg ?_
    refine L.as rfl rfl ?_
    refine L.nil ?_
    refine T.ret ?_
    exact G.ret (res1 Tryz.results34 rfl) ⟨rfl, rfl⟩
  · skip
    refine T.rg ?_
    refine L.mv rfl rfl ?_
    refine L.cmp rfl rfl rfl rfl ?_
    refine L.setB (t := 26) (b' := true) rfl (by decide) ?_
    refine L.as rfl rfl ?_
    refine L.nil ?_
    refine T.condT rfl ?_
    refine T.rg ?_
    refine L.mv rfl rfl ?_
    refine L.mv rfl rfl ?_
    refine L.ixS 0 Tryz.underlying9 rfl rfl rfl (by decide) rfl ?_
    refine L.call e62 rfl rfl (f62 (mkB l) 61) ?_
    rintro _ _ ⟨rfl, rfl⟩
    rw [mkB_data]
    refine L.as rfl rfl ?_
    refine L.nil ?_
    refine T.ret ?_
    exact G.ret (res1 Tryz.results34 rfl) ⟨rfl, rfl⟩

set_option maxHeartbeats 1000000 in
theorem f23c61 (l : List UInt8) (hl : l.length ≤ 1000000) : Fc Tryz.prog 23 [S_ (mkB l), S_ (oneB 61)] [] (fun x Ω => Ω = [] ∧ ∃ (a b : List UInt8) (ok : Bool), x = .t [S_ (mkB a), S_ (mkB b), Bo ok] ∧ a.length ≤ l.length ∧ b.length ≤ l.length ∧ (ok = true → a.length + b.length + 1 = l.length)) := by
  refine Fc.enter Tryz.func23 rfl Tryz.ntmps23 rfl fun X w => ?_
  refine T.rg ?_
  refine L.as rfl rfl ?_
  refine L.as rfl rfl ?_
  refine L.as rfl rfl ?_
  refine L.nil ?_
  refine T.of_seq ?_
  refine T.rg ?_
  refine L.mv rfl rfl ?_
  refine L.mv rfl rfl ?_
  refine L.call e34 rfl rfl (f34c61 l) ?_
  rintro _ _ ⟨rfl, rfl⟩
  have hix := idxC l 61
  refine L.as rfl rfl ?_
  refine L.nil ?_
  refine T.rg ?_
  refine L.mv rfl rfl ?_
  refine L.cmp rfl rfl rfl rfl ?_
  refine L.nil ?_
  refine T.cond rfl (fun h12 => ?_) (fun h12 => ?_)
  · skip
    obtain ⟨m, hm, hlt⟩ : ∃ m : Nat, Lib.indexByte l 61 = (m : Int) ∧ m < l.length := by
      rcases hix with h1 | h
      · have := of_decide_eq_true h12; omega
      · exact h
    rw [hm]
    refine T.of_seq ?_
    refine T.drawC 10 [(7, aN (m : Int)), (1, aS (oneB 61)), (0, aS (mkB l))] ([]) (fun _ => []) [] (fun n x _ post => match n with
      | 0 => x = aS (mkB l) ∧ post = []
      | 1 => x = aN (m : Int) ∧ post = []
      | 2 => x = aS (mkB (l.take m)) ∧ post = []
      | 3 => x = aS (mkB l) ∧ post = []
      | 4 => x = aN (m : Int) ∧ post = []
      | 5 => x = aS (oneB 61) ∧ post = []
      | 6 => x = aN 1 ∧ post = []
      | 7 => x = aN ((m + 1 : Nat) : Int) ∧ post = []
      | 8 => x = aS (mkB (l.drop (m + 1))) ∧ post = []
      | 9 => x = aS (mkB (l.take m)) ∧ post = []
      | _ => False) hmixed rfl rfl rfl (by repeat constructor) (List.Perm.refl _) rfl ⟨?_, ?_, ?_, ?_, ?_, ?_, ?_, ?_, ?_, ?_, trivial⟩ ?_
    · intro X posts σ' Ωf hsb hA
      refine L.mv (hsb.get rfl) rfl ?_
      exact L.last (G.fin [] ⟨rfl, rfl⟩ rfl)
    · intro X posts σ' Ωf hsb hA
      refine L.mv (hsb.get rfl) rfl ?_
      exact L.last (G.fin [] ⟨rfl, rfl⟩ rfl)
    · intro X posts σ' Ωf hsb hA
      have hx0 := (hA 0 rfl).2.1
      have l13 : σ'.lookup 13 = some (aS (mkB l)) := (hA 0 rfl).1.trans (congrArg some hx0)
      have hx1 := (hA 1 rfl).2.1
      have l14 : σ'.lookup 14 = some (aN (m : Int)) := (hA 1 rfl).1.trans (congrArg some hx1)
      refine L.slS 0 m Tryz.underlying9 l13 rfl ⟨_, l14⟩ ⟨by omega, by rw [mkB_size]; omega⟩ rfl ?_
      rw [take_ext]
      exact L.last (G.fin [] ⟨rfl, rfl⟩ rfl)
    · intro X posts σ' Ωf hsb hA
      refine L.mv (hsb.get rfl) rfl ?_
      exact L.last (G.fin [] ⟨rfl, rfl⟩ rfl)
    · intro X posts σ' Ωf hsb hA
      refine L.mv (hsb.get rfl) rfl ?_
      exact L.last (G.fin [] ⟨rfl, rfl⟩ rfl)
    · intro X posts σ' Ωf hsb hA
      refine L.mv (hsb.get rfl) rfl ?_
      exact L.last (G.fin [] ⟨rfl, rfl⟩ rfl)
    · intro X posts σ' Ωf hsb hA
      have hx5 := (hA 5 rfl).2.1
      have l18 : σ'.lookup 18 = some (aS (oneB 61)) := (hA 5 rfl).1.trans (congrArg some hx5)
      refine L.lenS Tryz.underlying9 l18 rfl ?_
      exact L.last (G.fin [] ⟨rfl, rfl⟩ rfl)
    · intro X posts σ' Ωf hsb hA
      have hx4 := (hA 4 rfl).2.1
      have l17 : σ'.lookup 17 = some (aN (m : Int)) := (hA 4 rfl).1.trans (congrArg some hx4)
      have hx6 := (hA 6 rfl).2.1
      have l19 : σ'.lookup 19 = some (aN 1) := (hA 6 rfl).1.trans (congrArg some hx6)
      refine L.ar ((m + 1 : Nat) : Int) l17 l19 rfl (by omega) rfl ?_
      exact L.last (G.fin [] ⟨rfl, rfl⟩ rfl)
    · intro X posts σ' Ωf hsb hA
      have hx3 := (hA 3 rfl).2.1
      have l16 : σ'.lookup 16 = some (aS (mkB l)) := (hA 3 rfl).1.trans (congrArg some hx3)
      have hx7 := (hA 7 rfl).2.1
      have l20 : σ'.lookup 20 = some (aN ((m + 1 : Nat) : Int)) := (hA 7 rfl).1.trans (congrArg some hx7)
      refine L.slS (m + 1) l.length Tryz.underlying9 l16 ⟨_, l20⟩ (by rw [mkB_size]; rfl) ⟨by omega, by rw [mkB_size]; omega⟩ rfl ?_
      rw [drop_all]
      exact L.last (G.fin [] ⟨rfl, rfl⟩ rfl)
    · intro X posts σ' Ωf hsb hA
      have hx2 := (hA 2 rfl).2.1
      have l15 : σ'.lookup 15 = some (aS (mkB (l.take m))) := (hA 2 rfl).1.trans (congrArg some hx2)
      refine L.as l15 rfl ?_
      exact L.last (G.fin [] ⟨rfl, rfl⟩ rfl)
    intro X posts hR
    obtain ⟨hx0, hp0⟩ : X 0 = aS (mkB l) ∧ posts 0 = [] := hR 0 rfl
    obtain ⟨hx1, hp1⟩ : X 1 = aN (m : Int) ∧ posts 1 = [] := hR 1 rfl
    obtain ⟨hx2, hp2⟩ : X 2 = aS (mkB (l.take m)) ∧ posts 2 = [] := hR 2 rfl
    obtain ⟨hx3, hp3⟩ : X 3 = aS (mkB l) ∧ posts 3 = [] := hR 3 rfl
    obtain ⟨hx4, hp4⟩ : X 4 = aN (m : Int) ∧ posts 4 = [] := hR 4 rfl
    obtain ⟨hx5, hp5⟩ : X 5 = aS (oneB 61) ∧ posts 5 = [] := hR 5 rfl
    obtain ⟨hx6, hp6⟩ : X 6 = aN 1 ∧ posts 6 = [] := hR 6 rfl
    obtain ⟨hx7, hp7⟩ : X 7 = aN ((m + 1 : Nat) : Int) ∧ posts 7 = [] := hR 7 rfl
    obtain ⟨hx8, hp8⟩ : X 8 = aS (mkB (l.drop (m + 1))) ∧ posts 8 = [] := hR 8 rfl
    obtain ⟨hx9, hp9⟩ : X 9 = aS (mkB (l.take m)) ∧ posts 9 = [] := hR 9 rfl
    have hpp : (List.range 10).flatMap (leftC 10 (fun i => ([] : List (Option Nat)).getD i none) posts) = [] := by
      show posts 0 ++ (posts 1 ++ (posts 2 ++ (posts 3 ++ (posts 4 ++ (posts 5 ++ (posts 6 ++ (posts 7 ++ (posts 8 ++ (posts 9 ++ []))))))))) = _
      simp only [hp0, hp1, hp2, hp3, hp4, hp5, hp6, hp7, hp8, hp9, List.append_nil]
    rw [hpp]
    refine L.sub (σ' := [(4, aS (mkB (l.take m))), (21, aS (mkB (l.drop (m + 1)))), (7, aN (m : Int)), (1, aS (oneB 61)), (0, aS (mkB l))]) ⟨congrArg some hx9, congrArg some hx8, rfl, rfl, rfl, trivial⟩ ?_
    refine L.as rfl rfl ?_
    refine L.as rfl rfl ?_
    refine L.last ?_
    refine T.go (fun _ _ h => h) ?_
    refine T.ret ?_
    exact G.ret (res3 Tryz.results23 rfl rfl rfl) ⟨rfl, l.take m, l.drop (m + 1), true, rfl, by rw [List.length_take]; omega, by rw [List.length_drop]; omega, fun _ => by rw [List.length_take, List.length_drop]; omega⟩
  · skip
    refine T.skip ?_
    refine T.go (fun _ _ h => h) ?_
    refine T.rg ?_
    refine L.mv rfl rfl ?_
    refine L.as rfl rfl ?_
    refine L.as rfl rfl ?_
    refine L.as rfl rfl ?_
    refine L.nil ?_
    refine T.ret ?_
    exact G.ret (res3 Tryz.results23 rfl rfl rfl) ⟨rfl, l, [], false, rfl, Nat.le_refl _, Nat.zero_le _, fun h => by cases h⟩

set_option maxHeartbeats 400000 in
theorem f17c61 (t : ByteArray) (hl : t.size ≤ 1000000) : Fc Tryz.prog 17 [S_ t, S_ (oneB 61)] [] (fun x Ω => Ω = [] ∧ CutIs t x) := by
  obtain ⟨l, rfl⟩ : ∃ l, t = mkB l := ⟨_, (mkB_self t).symm⟩
  have hll : l.length ≤ 1000000 := by rw [mkB_size] at hl; exact hl
  refine Fc.enter Tryz.func17 rfl Tryz.ntmps17 rfl fun X w => ?_
  refine T.rg ?_
  refine L.as rfl rfl ?_
  refine L.as rfl rfl ?_
  refine L.as rfl rfl ?_
  refine L.nil ?_
  refine T.rg ?_
  refine L.mv rfl rfl ?_
  refine L.mv rfl rfl ?_
  refine L.call e23 rfl rfl (f23c61 l hll) ?_
  rintro _ _ ⟨rfl, a, b, ok, rfl, ha, hb, ho⟩
  refine L.ex rfl rfl rfl ?_
  refine L.ex rfl rfl rfl ?_
  refine L.ex rfl rfl rfl ?_
  refine L.as rfl rfl ?_
  refine L.as rfl rfl ?_
  refine L.as rfl rfl ?_
  refine L.nil ?_
  refine T.ret ?_
  exact G.ret (res3 Tryz.results17 rfl rfl rfl) ⟨rfl, mkB a, mkB b, ok, rfl, by rw [mkB_size, mkB_size]; exact ha, by rw [mkB_size, mkB_size]; exact hb, by rw [mkB_size, mkB_size, mkB_size]; exact ho⟩

set_option maxHeartbeats 1000000 in
theorem f34c39 (l : List UInt8) : Fc Tryz.prog 34 [S_ (mkB l), S_ (oneB 39)] [] (Just (aN (Lib.indexByte l 39))) := by
  refine Fc.enter Tryz.func34 rfl Tryz.ntmps34 rfl fun X w => ?_
  refine T.rg ?_
  refine L.as rfl rfl ?_
  refine L.nil ?_
  refine T.rg ?_
  refine L.mv rfl rfl ?_
  refine L.lenS Tryz.underlying9 rfl rfl ?_
  refine L.as rfl rfl ?_
  refine L.nil ?_
  refine T.of_seq ?_
  refine T.block ?_
  refine T.rg ?_
  refine L.mv rfl rfl ?_
  refine L.cmp rfl rfl rfl rfl ?_
  refine L.setB (t := 18) (b' := false) rfl (by decide) ?_
  refine L.mv rfl rfl ?_
  refine L.on rfl rfl ?_
  refine L.mv rfl rfl ?_
  refine L.on rfl rfl ?_
  refine L.mv rfl rfl ?_
  refine L.on rfl rfl ?_
  refine L.eqS rfl rfl rfl ?_
  refine L.pkF rfl rfl rfl ?_
  refine L.as rfl rfl ?_
  refine L.nil ?_
  refine T.cond rfl (fun h16 => ?_) (fun h16 => ?_)
  · skip
    obtain rfl : [39] = l := by rw [← mkB_inj]; exact of_decide_eq_true h16
    refine T.rg ?_
    refine L.as rfl rfl ?_
    refine L.nil ?_
    refine T.ret ?_
    exact G.ret (res1 Tryz.results34 rfl) ⟨rfl, rfl⟩
  · skip
    refine T.rg ?_
    refine L.mv rfl rfl ?_
    refine L.cmp rfl rfl rfl rfl ?_
    refine L.setB (t := 26) (b' := true) rfl (by decide) ?_
    refine L.as rfl rfl ?_
    refine L.nil ?_
    refine T.condT rfl ?_
    refine T.rg ?_
    refine L.mv rfl rfl ?_
    refine L.mv rfl rfl ?_
    refine L.ixS 0 Tryz.underlying9 rfl rfl rfl (by decide) rfl ?_
    refine L.call e62 rfl rfl (f62 (mkB l) 39) ?_
    rintro _ _ ⟨rfl, rfl⟩
    rw [mkB_data]
    refine L.as rfl rfl ?_
    refine L.nil ?_
    refine T.ret ?_
    exact G.ret (res1 Tryz.results34 rfl) ⟨rfl, rfl⟩

set_option maxHeartbeats 1000000 in
theorem f23c39 (l : List UInt8) (hl : l.length ≤ 1000000) : Fc Tryz.prog 23 [S_ (mkB l), S_ (oneB 39)] [] (fun x Ω => Ω = [] ∧ ∃ (a b : List UInt8) (ok : Bool), x = .t [S_ (mkB a), S_ (mkB b), Bo ok] ∧ a.length ≤ l.length ∧ b.length ≤ l.length ∧ (ok = true → a.length + b.length + 1 = l.length)) := by
  refine Fc.enter Tryz.func23 rfl Tryz.ntmps23 rfl fun X w => ?_
  refine T.rg ?_
  refine L.as rfl rfl ?_
  refine L.as rfl rfl ?_
  refine L.as rfl rfl ?_
  refine L.nil ?_
  refine T.of_seq ?_
  refine T.rg ?_
  refine L.mv rfl rfl ?_
  refine L.mv rfl rfl ?_
  refine L.call e34 rfl rfl (f34c39 l) ?_
  rintro _ _ ⟨rfl, rfl⟩
  have hix := idxC l 39
  refine L.as rfl rfl ?_
  refine L.nil ?_
  refine T.rg ?_
  refine L.mv rfl rfl ?_
  refine L.cmp rfl rfl rfl rfl ?_
  refine L.nil ?_
  refine T.cond rfl (fun h12 => ?_) (fun h12 => ?_)
  · skip
    obtain ⟨m, hm, hlt⟩ : ∃ m : Nat, Lib.indexByte l 39 = (m : Int) ∧ m < l.length := by
      rcases hix with h1 | h
      · have := of_decide_eq_true h12; omega
      · exact h
    rw [hm]
    refine T.of_seq ?_
    refine T.drawC 10 [(7, aN (m : Int)), (1, aS (oneB 39)), (0, aS (mkB l))] ([]) (fun _ => []) [] (fun n x _ post => match n with
      | 0 => x = aS (mkB l) ∧ post = []
      | 1 => x = aN (m : Int) ∧ post = []
      | 2 => x = aS (mkB (l.take m)) ∧ post = []
      | 3 => x = aS (mkB l) ∧ post = []
      | 4 => x = aN (m : Int) ∧ post = []
      | 5 => x = aS (oneB 39) ∧ post = []
      | 6 => x = aN 1 ∧ post = []
      | 7 => x = aN ((m + 1 : Nat) : Int) ∧ post = []
      | 8 => x = aS (mkB (l.drop (m + 1))) ∧ post = []
      | 9 => x = aS (mkB (l.take m)) ∧ post = []
      | _ => False) hmixed rfl rfl rfl (by repeat constructor) (List.Perm.refl _) rfl ⟨?_, ?_, ?_, ?_, ?_, ?_, ?_, ?_, ?_, ?_, trivial⟩ ?_
    · intro X posts σ' Ωf hsb hA
      refine L.mv (hsb.get rfl) rfl ?_
      exact L.last (G.fin [] ⟨rfl, rfl⟩ rfl)
    · intro X posts σ' Ωf hsb hA
      refine L.mv (hsb.get rfl) rfl ?_
      exact L.last (G.fin [] ⟨rfl, rfl⟩ rfl)
    · intro X posts σ' Ωf hsb hA
      have hx0 := (hA 0 rfl).2.1
      have l13 : σ'.lookup 13 = some (aS (mkB l)) := (hA 0 rfl).1.trans (congrArg some hx0)
      have hx1 := (hA 1 rfl).2.1
      have l14 : σ'.lookup 14 = some (aN (m : Int)) := (hA 1 rfl).1.trans (congrArg some hx1)
      refine L.slS 0 m Tryz.underlying9 l13 rfl ⟨_, l14⟩ ⟨by omega, by rw [mkB_size]; omega⟩ rfl ?_
      rw [take_ext]
      exact L.last (G.fin [] ⟨rfl, rfl⟩ rfl)
    · intro X posts σ' Ωf hsb hA
      refine L.mv (hsb.get rfl) rfl ?_
      exact L.last (G.fin [] ⟨rfl, rfl⟩ rfl)
    · intro X posts σ' Ωf hsb hA
      refine L.mv (hsb.get rfl) rfl ?_
      exact L.last (G.fin [] ⟨rfl, rfl⟩ rfl)
    · intro X posts σ' Ωf hsb hA
      refine L.mv (hsb.get rfl) rfl ?_
      exact L.last (G.fin [] ⟨rfl, rfl⟩ rfl)
    · intro X posts σ' Ωf hsb hA
      have hx5 := (hA 5 rfl).2.1
      have l18 : σ'.lookup 18 = some (aS (oneB 39)) := (hA 5 rfl).1.trans (congrArg some hx5)
      refine L.lenS Tryz.underlying9 l18 rfl ?_
      exact L.last (G.fin [] ⟨rfl, rfl⟩ rfl)
    · intro X posts σ' Ωf hsb hA
      have hx4 := (hA 4 rfl).2.1
      have l17 : σ'.lookup 17 = some (aN (m : Int)) := (hA 4 rfl).1.trans (congrArg some hx4)
      have hx6 := (hA 6 rfl).2.1
      have l19 : σ'.lookup 19 = some (aN 1) := (hA 6 rfl).1.trans (congrArg some hx6)
      refine L.ar ((m + 1 : Nat) : Int) l17 l19 rfl (by omega) rfl ?_
      exact L.last (G.fin [] ⟨rfl, rfl⟩ rfl)
    · intro X posts σ' Ωf hsb hA
      have hx3 := (hA 3 rfl).2.1
      have l16 : σ'.lookup 16 = some (aS (mkB l)) := (hA 3 rfl).1.trans (congrArg some hx3)
      have hx7 := (hA 7 rfl).2.1
      have l20 : σ'.lookup 20 = some (aN ((m + 1 : Nat) : Int)) := (hA 7 rfl).1.trans (congrArg some hx7)
      refine L.slS (m + 1) l.length Tryz.underlying9 l16 ⟨_, l20⟩ (by rw [mkB_size]; rfl) ⟨by omega, by rw [mkB_size]; omega⟩ rfl ?_
      rw [drop_all]
      exact L.last (G.fin [] ⟨rfl, rfl⟩ rfl)
    · intro X posts σ' Ωf hsb hA
      have hx2 := (hA 2 rfl).2.1
      have l15 : σ'.lookup 15 = some (aS (mkB (l.take m))) := (hA 2 rfl).1.trans (congrArg some hx2)
      refine L.as l15 rfl ?_
      exact L.last (G.fin [] ⟨rfl, rfl⟩ rfl)
    intro X posts hR
    obtain ⟨hx0, hp0⟩ : X 0 = aS (mkB l) ∧ posts 0 = [] := hR 0 rfl
    obtain ⟨hx1, hp1⟩ : X 1 = aN (m : Int) ∧ posts 1 = [] := hR 1 rfl
    obtain ⟨hx2, hp2⟩ : X 2 = aS (mkB (l.take m)) ∧ posts 2 = [] := hR 2 rfl
    obtain ⟨hx3, hp3⟩ : X 3 = aS (mkB l) ∧ posts 3 = [] := hR 3 rfl
    obtain ⟨hx4, hp4⟩ : X 4 = aN (m : Int) ∧ posts 4 = [] := hR 4 rfl
    obtain ⟨hx5, hp5⟩ : X 5 = aS (oneB 39) ∧ posts 5 = [] := hR 5 rfl
    obtain ⟨hx6, hp6⟩ : X 6 = aN 1 ∧ posts 6 = [] := hR 6 rfl
    obtain ⟨hx7, hp7⟩ : X 7 = aN ((m + 1 : Nat) : Int) ∧ posts 7 = [] := hR 7 rfl
    obtain ⟨hx8, hp8⟩ : X 8 = aS (mkB (l.drop (m + 1))) ∧ posts 8 = [] := hR 8 rfl
    obtain ⟨hx9, hp9⟩ : X 9 = aS (mkB (l.take m)) ∧ posts 9 = [] := hR 9 rfl
    have hpp : (List.range 10).flatMap (leftC 10 (fun i => ([] : List (Option Nat)).getD i none) posts) = [] := by
      show posts 0 ++ (posts 1 ++ (posts 2 ++ (posts 3 ++ (posts 4 ++ (posts 5 ++ (posts 6 ++ (posts 7 ++ (posts 8 ++ (posts 9 ++ []))))))))) = _
      simp only [hp0, hp1, hp2, hp3, hp4, hp5, hp6, hp7, hp8, hp9, List.append_nil]
    rw [hpp]
    refine L.sub (σ' := [(4, aS (mkB (l.take m))), (21, aS (mkB (l.drop (m + 1)))), (7, aN (m : Int)), (1, aS (oneB 39)), (0, aS (mkB l))]) ⟨congrArg some hx9, congrArg some hx8, rfl, rfl, rfl, trivial⟩ ?_
    refine L.as rfl rfl ?_
    refine L.as rfl rfl ?_
    refine L.last ?_
    refine T.go (fun _ _ h => h) ?_
    refine T.ret ?_
    exact G.ret (res3 Tryz.results23 rfl rfl rfl) ⟨rfl, l.take m, l.drop (m + 1), true, rfl, by rw [List.length_take]; omega, by rw [List.length_drop]; omega, fun _ => by rw [List.length_take, List.length_drop]; omega⟩
  · skip
    refine T.skip ?_
    refine T.go (fun _ _ h => h) ?_
    refine T.rg ?_
    refine L.mv rfl rfl ?_
    refine L.as rfl rfl ?_
    refine L.as rfl rfl ?_
    refine L.as rfl rfl ?_
    refine L.nil ?_
    refine T.ret ?_
    exact G.ret (res3 Tryz.results23 rfl rfl rfl) ⟨rfl, l, [], false, rfl, Nat.le_refl _, Nat.zero_le _, fun h => by cases h⟩

set_option maxHeartbeats 400000 in
theorem f17c39 (t : ByteArray) (hl : t.size ≤ 1000000) : Fc Tryz.prog 17 [S_ t, S_ (oneB 39)] [] (fun x Ω => Ω = [] ∧ CutIs t x) := by
  obtain ⟨l, rfl⟩ : ∃ l, t = mkB l := ⟨_, (mkB_self t).symm⟩
  have hll : l.length ≤ 1000000 := by rw [mkB_size] at hl; exact hl
  refine Fc.enter Tryz.func17 rfl Tryz.ntmps17 rfl fun X w => ?_
  refine T.rg ?_
  refine L.as rfl rfl ?_
  refine L.as rfl rfl ?_
  refine L.as rfl rfl ?_
  refine L.nil ?_
  refine T.rg ?_
  refine L.mv rfl rfl ?_
  refine L.mv rfl rfl ?_
  refine L.call e23 rfl rfl (f23c39 l hll) ?_
  rintro _ _ ⟨rfl, a, b, ok, rfl, ha, hb, ho⟩
  refine L.ex rfl rfl rfl ?_
  refine L.ex rfl rfl rfl ?_
  refine L.ex rfl rfl rfl ?_
  refine L.as rfl rfl ?_
  refine L.as rfl rfl ?_
  refine L.as rfl rfl ?_
  refine L.nil ?_
  refine T.ret ?_
  exact G.ret (res3 Tryz.results17 rfl rfl rfl) ⟨rfl, mkB a, mkB b, ok, rfl, by rw [mkB_size, mkB_size]; exact ha, by rw [mkB_size, mkB_size]; exact hb, by rw [mkB_size, mkB_size, mkB_size]; exact ho⟩

set_option maxHeartbeats 400000 in
theorem f41 (m k : Int) : FcP Tryz.prog 41 [N_ m, N_ k] [] (fun _ _ => False) (fun u => u = .iface 86 (.agg #[.int .i64 m, .int .i64 k])) := by
  refine FcP.enter Tryz.func41 rfl Tryz.ntmps41 rfl fun X w => ?_
  refine T.region ?_
  refine L.mv rfl rfl ?_
  refine L.mv rfl rfl ?_
  refine L.bld p86 z86 rfl rfl rfl rfl rfl ?_
  refine L.mkI2 ⟨_, Tryz.underlying86⟩ rfl rfl ?_
  exact L.panic rfl (G.pan rfl)

set_option maxHeartbeats 400000 in
theorem f106 (g : Nat) (ps : List (ByteArray × Int)) (k : ByteArray) : Fc Tryz.prog 106 [R_ (.map (some g)), S_ k] [cntM g ps] (fun x Ω => ∃ b ps2, x = aB b ∧ Ω = [cntM g ps2]) := by
  refine Fc.enter Tryz.func106 rfl Tryz.ntmps106 rfl fun X w => ?_
  refine T.rg ?_
  refine L.as rfl rfl ?_
  refine L.nil ?_
  refine T.rg ?_
  refine L.mv rfl rfl ?_
  refine L.mv rfl rfl ?_
  obtain ⟨c, hc⟩ := cnt_look ps k
  refine L.look 0 (.c (.d (.i .i64 0))) Tryz.underlying149 Tryz.underlying9 z3 rfl rfl rfl (by rw [hc]; rfl) rfl ?_
  rw [hc]
  refine L.arK _ rfl rfl rfl rfl rfl ?_
  refine L.mapUp 0 Tryz.underlying149 Tryz.underlying9 rfl rfl rfl rfl rfl rfl ?_
  obtain ⟨ps2, hp⟩ := cnt_put ps k (IntKind.i64.wrap (c + 1))
  rw [hp]
  refine L.nil ?_
  refine T.rg ?_
  refine L.mv rfl rfl ?_
  refine L.mv rfl rfl ?_
  obtain ⟨c2, hc2⟩ := cnt_look ps2 k
  refine L.look 0 (.c (.d (.i .i64 0))) Tryz.underlying149 Tryz.underlying9 z3 rfl rfl rfl (by rw [hc2]; rfl) rfl ?_
  rw [hc2]
  refine L.cmp rfl rfl rfl rfl ?_
  refine L.as rfl rfl ?_
  refine L.nil ?_
  refine T.ret ?_
  exact G.ret (res1 Tryz.results106 rfl) ⟨_, ps2, rfl, rfl⟩

set_option maxHeartbeats 2000000 in
theorem f40 (b : Nat) (s : ByteArray) (k : Nat) (d : Int) (hk : k ≤ s.size) (hs : s.size ≤ 1000) : Fc Tryz.prog 40 [P_ b 0] [rn b s k d] (fun x Ω => x = .t [] ∧ Ω = [rn b s (blanksN s k) d]) := by
  refine Fc.enter Tryz.func40 rfl Tryz.ntmps40 rfl fun X w => ?_
  refine T.block ?_
  refine T.loop (fun m σ Ω => ∃ j : Nat, k ≤ j ∧ j ≤ s.size ∧ m = s.size - j ∧ blanksN s j = blanksN s k ∧ σ = [(0, aP b 0)] ∧ Ω = [rn b s j d]) (s.size - k) _ (⟨k, Nat.le_refl _, hk, rfl, rfl, rfl, rfl⟩) (by repeat constructor) ?_
  rintro m σ Ω ⟨j, hkj, hj, rfl, hb, rfl, rfl⟩
  refine T.of_seq ?_
  refine T.of_seq ?_
  rcases Nat.lt_or_ge j s.size with hlt | hge
  · skip
    refine T.drawGD 19 [(0, aP b 0)] [aP b 0, aP b 0, aP b 1, aN (j : Nat), aP b 0, aP b 0, aP b 0, aS s, aN (s.size : Nat), aB true, aB true, aP b 0, aP b 0, aP b 0, aS s, aP b 0, aP b 0, aP b 1, aN (j : Nat)] hmixed rfl rfl rfl rfl (by repeat constructor) ⟨?_, ?_, ?_, ?_, ?_, ?_, ?_, ?_, ?_, ?_, ?_, ?_, ?_, ?_, ?_, ?_, ?_, ?_, ?_, trivial⟩ ?_
    · intro σ' Ωf hsb hA
      refine L.mv (hsb.get rfl) rfl ?_
      exact L.last (G.finGD rfl)
    · intro σ' Ωf hsb hA
      refine L.nilck (hA 0 rfl) rfl ?_
      exact L.last (G.finGD rfl)
    · intro σ' Ωf hsb hA
      refine L.fa Tryz.underlying90 rfl s3 (hA 1 rfl) rfl ?_
      exact L.last (G.finGD rfl)
    · intro σ' Ωf hsb hA
      refine L.ld 0 o3 (hA 2 rfl) rfl rfl rfl ?_
      exact L.last (G.finGD rfl)
    · intro σ' Ωf hsb hA
      refine L.mv (hsb.get rfl) rfl ?_
      exact L.last (G.finGD rfl)
    · intro σ' Ωf hsb hA
      refine L.nilck (hA 4 rfl) rfl ?_
      exact L.last (G.finGD rfl)
    · intro σ' Ωf hsb hA
      refine L.fa Tryz.underlying90 rfl s9 (hA 5 rfl) rfl ?_
      exact L.last (G.finGD rfl)
    · intro σ' Ωf hsb hA
      refine L.ld 0 o9 (hA 6 rfl) rfl rfl rfl ?_
      exact L.last (G.finGD rfl)
    · intro σ' Ωf hsb hA
      refine L.lenS Tryz.underlying9 (hA 7 rfl) rfl ?_
      exact L.last (G.finGD rfl)
    · intro σ' Ωf hsb hA
      refine L.cmp (r := true) (hA 3 rfl) (hA 8 rfl) (congrArg some (decide_eq_true (by omega))) rfl ?_
      exact L.last (G.finGD rfl)
    · intro σ' Ωf hsb hA
      refine L.mv (hA 9 rfl) rfl ?_
      exact L.last (G.finGD rfl)
    · intro σ' Ωf hsb hA
      refine L.on rfl (hA 10 rfl) ?_
      refine L.mv (hsb.get rfl) rfl ?_
      exact L.last (G.finGD rfl)
    · intro σ' Ωf hsb hA
      refine L.on rfl (hA 10 rfl) ?_
      refine L.nilck (hA 11 rfl) rfl ?_
      exact L.last (G.finGD rfl)
    · intro σ' Ωf hsb hA
      refine L.on rfl (hA 10 rfl) ?_
      refine L.fa Tryz.underlying90 rfl s9 (hA 12 rfl) rfl ?_
      exact L.last (G.finGD rfl)
    · intro σ' Ωf hsb hA
      refine L.on rfl (hA 10 rfl) ?_
      refine L.ld 0 o9 (hA 13 rfl) rfl rfl rfl ?_
      exact L.last (G.finGD rfl)
    · intro σ' Ωf hsb hA
      refine L.on rfl (hA 10 rfl) ?_
      refine L.mv (hsb.get rfl) rfl ?_
      exact L.last (G.finGD rfl)
    · intro σ' Ωf hsb hA
      refine L.on rfl (hA 10 rfl) ?_
      refine L.nilck (hA 15 rfl) rfl ?_
      exact L.last (G.finGD rfl)
    · intro σ' Ωf hsb hA
      refine L.on rfl (hA 10 rfl) ?_
      refine L.fa Tryz.underlying90 rfl s3 (hA 16 rfl) rfl ?_
      exact L.last (G.finGD rfl)
    · intro σ' Ωf hsb hA
      refine L.on rfl (hA 10 rfl) ?_
      refine L.ld 0 o3 (hA 17 rfl) rfl rfl rfl ?_
      exact L.last (G.finGD rfl)
    refine L.on rfl rfl ?_
    refine L.ixS j Tryz.underlying9 rfl rfl rfl hlt rfl ?_
    refine L.on rfl rfl ?_
    refine L.cmp rfl rfl rfl rfl ?_
    refine L.pkT rfl rfl rfl ?_
    refine L.last ?_
    refine T.go (fun _ _ h => h) ?_
    refine T.cond rfl (fun h23 => ?_) (fun h23 => ?_)
    · skip
      have hc : (s[j].toNat : Int) = 32 := by simpa using h23
      refine T.skip ?_
      refine T.go (fun _ _ h => h) ?_
      refine T.block ?_
      refine T.region ?_
      refine L.mv rfl rfl ?_
      refine L.nilck rfl rfl ?_
      refine L.fa Tryz.underlying90 rfl s3 rfl rfl ?_
      refine L.ld 0 o3 rfl rfl rfl rfl ?_
      refine L.ar ((j + 1 : Nat) : Int) rfl rfl rfl (by omega) rfl ?_
      refine L.nilck rfl rfl ?_
      refine L.fa Tryz.underlying90 rfl s3 rfl rfl ?_
      refine L.sto 0 s3 rfl rfl rfl rfl rfl ?_
      refine L.last ?_
      refine G.round (s.size - (j + 1)) _ (by omega) ⟨j + 1, by omega, by omega, rfl, by rw [← hb, blanksN_yes hlt hc], rfl, rfl⟩ (by repeat constructor)
    · skip
      have hbj : blanksN s j = j := blanksN_no hlt (by simpa using h23)
      rw [hbj] at hb
      refine T.exit ?_
      exact G.end (res0 Tryz.results40) ⟨rfl, by rw [← hb]⟩
  · skip
    refine T.drawGD 19 [(0, aP b 0)] [aP b 0, aP b 0, aP b 1, aN (j : Nat), aP b 0, aP b 0, aP b 0, aS s, aN (s.size : Nat), aB false, aB false, .t [], .t [], .t [], .t [], .t [], .t [], .t [], .t []] hmixed rfl rfl rfl rfl (by repeat constructor) ⟨?_, ?_, ?_, ?_, ?_, ?_, ?_, ?_, ?_, ?_, ?_, ?_, ?_, ?_, ?_, ?_, ?_, ?_, ?_, trivial⟩ ?_
    · intro σ' Ωf hsb hA
      refine L.mv (hsb.get rfl) rfl ?_
      exact L.last (G.finGD rfl)
    · intro σ' Ωf hsb hA
      refine L.nilck (hA 0 rfl) rfl ?_
      exact L.last (G.finGD rfl)
    · intro σ' Ωf hsb hA
      refine L.fa Tryz.underlying90 rfl s3 (hA 1 rfl) rfl ?_
      exact L.last (G.finGD rfl)
    · intro σ' Ωf hsb hA
      refine L.ld 0 o3 (hA 2 rfl) rfl rfl rfl ?_
      exact L.last (G.finGD rfl)
    · intro σ' Ωf hsb hA
      refine L.mv (hsb.get rfl) rfl ?_
      exact L.last (G.finGD rfl)
    · intro σ' Ωf hsb hA
      refine L.nilck (hA 4 rfl) rfl ?_
      exact L.last (G.finGD rfl)
    · intro σ' Ωf hsb hA
      refine L.fa Tryz.underlying90 rfl s9 (hA 5 rfl) rfl ?_
      exact L.last (G.finGD rfl)
    · intro σ' Ωf hsb hA
      refine L.ld 0 o9 (hA 6 rfl) rfl rfl rfl ?_
      exact L.last (G.finGD rfl)
    · intro σ' Ωf hsb hA
      refine L.lenS Tryz.underlying9 (hA 7 rfl) rfl ?_
      exact L.last (G.finGD rfl)
    · intro σ' Ωf hsb hA
      refine L.cmp (r := false) (hA 3 rfl) (hA 8 rfl) (congrArg some (decide_eq_false (by omega))) rfl ?_
      exact L.last (G.finGD rfl)
    · intro σ' Ωf hsb hA
      refine L.mv (hA 9 rfl) rfl ?_
      exact L.last (G.finGD rfl)
    · intro σ' Ωf hsb hA
      refine L.off rfl (hA 10 rfl) rfl rfl ?_
      exact L.last (G.finGD rfl)
    · intro σ' Ωf hsb hA
      refine L.off rfl (hA 10 rfl) rfl rfl ?_
      exact L.last (G.finGD rfl)
    · intro σ' Ωf hsb hA
      refine L.off rfl (hA 10 rfl) rfl rfl ?_
      exact L.last (G.finGD rfl)
    · intro σ' Ωf hsb hA
      refine L.off rfl (hA 10 rfl) rfl rfl ?_
      exact L.last (G.finGD rfl)
    · intro σ' Ωf hsb hA
      refine L.off rfl (hA 10 rfl) rfl rfl ?_
      exact L.last (G.finGD rfl)
    · intro σ' Ωf hsb hA
      refine L.off rfl (hA 10 rfl) rfl rfl ?_
      exact L.last (G.finGD rfl)
    · intro σ' Ωf hsb hA
      refine L.off rfl (hA 10 rfl) rfl rfl ?_
      exact L.last (G.finGD rfl)
    · intro σ' Ωf hsb hA
      refine L.off rfl (hA 10 rfl) rfl rfl ?_
      exact L.last (G.finGD rfl)
    refine L.off rfl rfl rfl rfl ?_
    refine L.off rfl rfl rfl rfl ?_
    refine L.pkF rfl rfl rfl ?_
    refine L.last ?_
    refine T.go (fun _ _ h => h) ?_
    refine T.condF rfl ?_
    refine T.exit ?_
    have hbj : blanksN s j = j := blanksN_end hge
    rw [hbj] at hb
    exact G.end (res0 Tryz.results40) ⟨rfl, by rw [← hb]⟩

set_option maxHeartbeats 2000000 in
theorem f68 (b : Nat) (s : ByteArray) (k : Nat) (d : Int) (hk : k ≤ s.size) (hs : s.size ≤ 1000) : Fc Tryz.prog 68 [P_ b 0] [rn b s k d] (fun x Ω => x = .v (B8 (nextB s (blanksN s k))) ∧ Ω = [rn b s (blanksN s k) d]) := by
  refine Fc.enter Tryz.func68 rfl Tryz.ntmps68 rfl fun X w => ?_
  refine T.rg ?_
  refine L.as rfl rfl ?_
  refine L.nil ?_
  refine T.rg ?_
  refine L.mv rfl rfl ?_
  refine L.callO [] [_] [] rfl e40 rfl rfl (f40 b s k d hk hs) ?_
  rintro _ _ ⟨rfl, rfl⟩
  have hbl := blanksN_le hk
  refine L.nil ?_
  refine T.of_seq ?_
  refine T.of_seq ?_
  refine T.drawD 9 [(0, aP b 0), (2, aI .u8 0)] [aP b 0, aP b 0, aP b 1, aN ((blanksN s k) : Nat), aP b 0, aP b 0, aP b 0, aS s, aN (s.size : Nat)] hmixed rfl rfl rfl rfl (by repeat constructor) ⟨?_, ?_, ?_, ?_, ?_, ?_, ?_, ?_, ?_, trivial⟩ ?_
  · intro σ' Ωf hsb hA
    refine L.mv (hsb.get rfl) rfl ?_
    exact L.last (G.finD rfl)
  · intro σ' Ωf hsb hA
    refine L.nilck (hA 0 rfl) rfl ?_
    exact L.last (G.finD rfl)
  · intro σ' Ωf hsb hA
    refine L.fa Tryz.underlying90 rfl s3 (hA 1 rfl) rfl ?_
    exact L.last (G.finD rfl)
  · intro σ' Ωf hsb hA
    refine L.ld 0 o3 (hA 2 rfl) rfl rfl rfl ?_
    exact L.last (G.finD rfl)
  · intro σ' Ωf hsb hA
    refine L.mv (hsb.get rfl) rfl ?_
    exact L.last (G.finD rfl)
  · intro σ' Ωf hsb hA
    refine L.nilck (hA 4 rfl) rfl ?_
    exact L.last (G.finD rfl)
  · intro σ' Ωf hsb hA
    refine L.fa Tryz.underlying90 rfl s9 (hA 5 rfl) rfl ?_
    exact L.last (G.finD rfl)
  · intro σ' Ωf hsb hA
    refine L.ld 0 o9 (hA 6 rfl) rfl rfl rfl ?_
    exact L.last (G.finD rfl)
  · intro σ' Ωf hsb hA
    refine L.lenS Tryz.underlying9 (hA 7 rfl) rfl ?_
    exact L.last (G.finD rfl)
  refine L.cmp rfl rfl rfl rfl ?_
  refine L.last ?_
  refine T.go (fun _ _ h => h) ?_
  refine T.cond rfl (fun h14 => ?_) (fun h14 => ?_)
  · skip
    have he : blanksN s k = s.size := by have := of_decide_eq_true h14; omega
    refine T.rg ?_
    refine L.as rfl rfl ?_
    refine L.nil ?_
    refine T.ret ?_
    exact G.ret (res1 Tryz.results68 rfl) ⟨by rw [he, nextB_out (Nat.le_refl _)]; rfl, rfl⟩
  · skip
    have hlt : blanksN s k < s.size := by have := of_decide_eq_false h14; omega
    refine T.skip ?_
    refine T.go (fun _ _ h => h) ?_
    refine T.of_seq ?_
    refine T.drawD 8 [(0, aP b 0)] [aP b 0, aP b 0, aP b 0, aS s, aP b 0, aP b 0, aP b 1, aN ((blanksN s k) : Nat)] hmixed rfl rfl rfl rfl (by repeat constructor) ⟨?_, ?_, ?_, ?_, ?_, ?_, ?_, ?_, trivial⟩ ?_
    · intro σ' Ωf hsb hA
      refine L.mv (hsb.get rfl) rfl ?_
      exact L.last (G.finD rfl)
    · intro σ' Ωf hsb hA
      refine L.nilck (hA 0 rfl) rfl ?_
      exact L.last (G.finD rfl)
    · intro σ' Ωf hsb hA
      refine L.fa Tryz.underlying90 rfl s9 (hA 1 rfl) rfl ?_
      exact L.last (G.finD rfl)
    · intro σ' Ωf hsb hA
      refine L.ld 0 o9 (hA 2 rfl) rfl rfl rfl ?_
      exact L.last (G.finD rfl)
    · intro σ' Ωf hsb hA
      refine L.mv (hsb.get rfl) rfl ?_
      exact L.last (G.finD rfl)
    · intro σ' Ωf hsb hA
      refine L.nilck (hA 4 rfl) rfl ?_
      exact L.last (G.finD rfl)
    · intro σ' Ωf hsb hA
      refine L.fa Tryz.underlying90 rfl s3 (hA 5 rfl) rfl ?_
      exact L.last (G.finD rfl)
    · intro σ' Ωf hsb hA
      refine L.ld 0 o3 (hA 6 rfl) rfl rfl rfl ?_
      exact L.last (G.finD rfl)
    refine L.ixS (blanksN s k) Tryz.underlying9 rfl rfl rfl hlt rfl ?_
    refine L.as rfl rfl ?_
    refine L.last ?_
    refine T.go (fun _ _ h => h) ?_
    refine T.ret ?_
    exact G.ret (res1 Tryz.results68 rfl) ⟨by rw [nextB_in hlt], rfl⟩

set_option maxHeartbeats 400000 in
theorem f105 (c : UInt8) : Fc Tryz.prog 105 [B8 c] [] (fun x Ω => Ω = [] ∧ ∃ b, x = aB b) := by
  refine Fc.enter Tryz.func105 rfl Tryz.ntmps105 rfl fun X w => ?_
  refine T.rg ?_
  refine L.as rfl rfl ?_
  refine L.nil ?_
  refine T.rg ?_
  refine L.mv rfl rfl ?_
  refine L.cmp rfl rfl rfl rfl ?_
  refine L.mv rfl rfl ?_
  refine L.caseB 5 rfl (fun h5 => ?_) (fun h5 => ?_)
  · skip
    refine L.on rfl rfl ?_
    refine L.mv rfl rfl ?_
    refine L.on rfl rfl ?_
    refine L.cmp rfl rfl rfl rfl ?_
    refine L.pkT rfl rfl rfl ?_
    refine L.mv rfl rfl ?_
    refine L.caseB 9 rfl (fun h9 => ?_) (fun h9 => ?_)
    · skip
      refine L.on rfl rfl ?_
      refine L.mv rfl rfl ?_
      refine L.on rfl rfl ?_
      refine L.cmp rfl rfl rfl rfl ?_
      refine L.pkT rfl rfl rfl ?_
      refine L.mv rfl rfl ?_
      refine L.caseB 13 rfl (fun h13 => ?_) (fun h13 => ?_)
      · skip
        refine L.on rfl rfl ?_
        refine L.mv rfl rfl ?_
        refine L.on rfl rfl ?_
        refine L.cmp rfl rfl rfl rfl ?_
        refine L.pkT rfl rfl rfl ?_
        refine L.mv rfl rfl ?_
        refine L.caseB 17 rfl (fun h17 => ?_) (fun h17 => ?_)
        · skip
          refine L.on rfl rfl ?_
          refine L.mv rfl rfl ?_
          refine L.on rfl rfl ?_
          refine L.cmp rfl rfl rfl rfl ?_
          refine L.pkT rfl rfl rfl ?_
          refine L.as rfl rfl ?_
          refine L.nil ?_
          refine T.ret ?_
          exact G.ret (res1 Tryz.results105 rfl) ⟨rfl, _, rfl⟩
        · skip
          refine L.off rfl rfl rfl rfl ?_
          refine L.off rfl rfl rfl rfl ?_
          refine L.pkF rfl rfl rfl ?_
          refine L.as rfl rfl ?_
          refine L.nil ?_
          refine T.ret ?_
          exact G.ret (res1 Tryz.results105 rfl) ⟨rfl, _, rfl⟩
      · skip
        refine L.off rfl rfl rfl rfl ?_
        refine L.off rfl rfl rfl rfl ?_
        refine L.pkF rfl rfl rfl ?_
        refine L.mv rfl rfl ?_
        refine L.off rfl rfl rfl rfl ?_
        refine L.off rfl rfl rfl rfl ?_
        refine L.pkF rfl rfl rfl ?_
        refine L.as rfl rfl ?_
        refine L.nil ?_
        refine T.ret ?_
        exact G.ret (res1 Tryz.results105 rfl) ⟨rfl, _, rfl⟩
    · skip
      refine L.off rfl rfl rfl rfl ?_
      refine L.off rfl rfl rfl rfl ?_
      refine L.pkF rfl rfl rfl ?_
      refine L.mv rfl rfl ?_
      refine L.off rfl rfl rfl rfl ?_
      refine L.off rfl rfl rfl rfl ?_
      refine L.pkF rfl rfl rfl ?_
      refine L.mv rfl rfl ?_
      refine L.off rfl rfl rfl rfl ?_
      refine L.off rfl rfl rfl rfl ?_
      refine L.pkF rfl rfl rfl ?_
      refine L.as rfl rfl ?_
      refine L.nil ?_
      refine T.ret ?_
      exact G.ret (res1 Tryz.results105 rfl) ⟨rfl, _, rfl⟩
  · skip
    refine L.off rfl rfl rfl rfl ?_
    refine L.off rfl rfl rfl rfl ?_
    refine L.pkF rfl rfl rfl ?_
    refine L.mv rfl rfl ?_
    refine L.off rfl rfl rfl rfl ?_
    refine L.off rfl rfl rfl rfl ?_
    refine L.pkF rfl rfl rfl ?_
    refine L.mv rfl rfl ?_
    refine L.off rfl rfl rfl rfl ?_
    refine L.off rfl rfl rfl rfl ?_
    refine L.pkF rfl rfl rfl ?_
    refine L.mv rfl rfl ?_
    refine L.off rfl rfl rfl rfl ?_
    refine L.off rfl rfl rfl rfl ?_
    refine L.pkF rfl rfl rfl ?_
    refine L.as rfl rfl ?_
    refine L.nil ?_
    refine T.ret ?_
    exact G.ret (res1 Tryz.results105 rfl) ⟨rfl, _, rfl⟩
end Go.Proofs.YtimimkdgofiloaaGreatDoor
