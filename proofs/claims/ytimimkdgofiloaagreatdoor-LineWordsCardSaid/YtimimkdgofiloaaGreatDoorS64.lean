/- The notation's Parse: what fails is caught. Printed by gen.py. -/
import Derived.Test.YtimimkdgofiloaaGreatDoorS63
import Derived.Test.YtimimkdgofiloaaGreatDoorQu
namespace Go.Proofs.YtimimkdgofiloaaGreatDoor
open Go Go.Q
abbrev wrongV (m k : Int) : Value := .iface 86 (.agg #[.int .i64 m, .int .i64 k])
theorem perm4 {α : Type} {a b c d : α} : List.Perm [a, b, c, d] [c, d, b, a] := (List.perm_append_comm (l₁ := [a, b]) (l₂ := [c, d])).trans (.cons _ (.cons _ (.swap _ _ _)))
theorem perm3 {α : Type} {a b c : α} : List.Perm [a, b, c] [c, b, a] := (List.perm_append_comm (l₁ := [a, b]) (l₂ := [c])).trans (.cons _ (.swap _ _ _))
set_option maxHeartbeats 2000000 in
theorem f38n (r2 r3 r4 : Nat) (cs2 : List CV) (hc2 : cs2.length = 14) (y z : CV) : FcD Tryz.prog 38 [P_ r2 0, P_ r3 0, P_ r4 0] [.blk r4 41 [z], .blk r3 3 [y], .blk r2 36 cs2] (.returning) (.returning) (fun Ω => Ω = [.blk r4 41 [z], .blk r3 3 [y], .blk r2 36 cs2]) := by
  refine FcD.enter Tryz.func38 rfl Tryz.ntmps38 rfl rfl rfl found_nil rfl fun X w c₀ cs => ?_
  refine T.rg ?_
  refine L.mv rfl rfl ?_
  refine L.tasN Tryz.underlying86 z86 rfl rfl rfl rfl ?_
  refine L.mv rfl rfl ?_
  refine L.ex rfl rfl rfl ?_
  refine L.ex rfl rfl rfl ?_
  refine L.alloc z86 rfl rfl fun b4 => ?_
  refine L.stog 0 s86 rfl rfl rfl rfl rfl rfl ?_
  refine L.as rfl rfl ?_
  refine L.nil ?_
  refine T.rg ?_
  refine L.mv rfl rfl ?_
  refine L.nil ?_
  refine T.condF rfl ?_
  refine T.rg ?_
  refine L.mv rfl rfl ?_
  refine L.neNI (by kernel_rfl) rfl rfl ?_
  refine L.nil ?_
  refine T.condF rfl ?_
  refine T.skip ?_
  refine G.conv (drop_at (i := 0) rfl rfl) ?_
  exact G.endD Tryz.results38 rfl

set_option maxHeartbeats 2000000 in
theorem f38p (r2 r3 r4 : Nat) (cs2 : List CV) (hc2 : cs2.length = 14) (y z : CV) (m k : Int) : FcD Tryz.prog 38 [P_ r2 0, P_ r3 0, P_ r4 0] [.blk r4 41 [z], .blk r3 3 [y], .blk r2 36 cs2] (.panicking (pan (wrongV m k))) (.panicking [{ v := wrongV m k, recovered := true }]) (fun Ω => Ω = [.blk r4 41 [.d (.i .i64 k)], .blk r3 3 [.d (.i .i64 m)], .blk r2 36 zeroC]) := by
  refine FcD.enter Tryz.func38 rfl Tryz.ntmps38 rfl rfl rfl (found_pan _) rfl fun X w c₀ cs => ?_
  refine T.rg ?_
  refine L.mv rfl rfl ?_
  refine L.tas Tryz.underlying86 rfl rfl ?_
  refine L.mv rfl rfl ?_
  refine L.ex rfl rfl rfl ?_
  refine L.ex rfl rfl rfl ?_
  refine L.alloc z86 rfl rfl fun b4 => ?_
  refine L.stog 0 s86 rfl rfl rfl rfl rfl rfl ?_
  refine L.as rfl rfl ?_
  refine L.nil ?_
  refine T.rg ?_
  refine L.mv rfl rfl ?_
  refine L.nil ?_
  refine T.condT rfl ?_
  refine T.drawG 7 [(4, aP b4 0), (0, aP r2 0), (1, aP r3 0), (2, aP r4 0)] ([.blk b4 86 [.d (.i .i64 m), .d (.i .i64 k)], .blk r4 41 [z]]) (fun n => match n with | 5 => [.blk r2 36 cs2] | 6 => [.blk r3 3 [y]] | _ => []) [] (fun n x _ post => match n with
    | 0 => x = .v (.g zeroC) ∧ post = []
    | 1 => x = aP b4 0 ∧ post = []
    | 2 => x = aD (.i .i64 m) ∧ post = []
    | 3 => x = aP b4 1 ∧ post = []
    | 4 => x = aD (.i .i64 k) ∧ post = []
    | 5 => x = .t [] ∧ post = [.blk r2 36 zeroC]
    | 6 => x = .t [] ∧ post = [.blk r3 3 [.d (.i .i64 m)]]
    | _ => False) hmixed rfl rfl rfl (by repeat constructor) ((show List.Perm [Ob.blk r2 36 cs2, .blk r3 3 [y], .blk b4 86 [.d (.i .i64 m), .d (.i .i64 k)], .blk r4 41 [z]] _ from perm4)) rfl ⟨?_, ?_, ?_, ?_, ?_, ?_, ?_, trivial⟩ ?_
  · intro X posts σ' Ωf hsb hA
    refine L.bld p36 z36 rfl rfl evpN rfl rfl ?_
    exact L.last (G.finG [] ⟨rfl, rfl⟩ rfl)
  · intro X posts σ' Ωf hsb hA
    refine L.fa Tryz.underlying86 rfl s3 (hsb.get rfl) rfl ?_
    exact L.last (G.finG [] ⟨rfl, rfl⟩ rfl)
  · intro X posts σ' Ωf hsb hA
    have hx1 := (hA 1 rfl).2.1
    have l14 : σ'.lookup 14 = some (aP b4 0) := Eq.trans (hA 1 rfl).1 (congrArg some hx1)
    refine L.ld 0 o3 l14 rfl rfl rfl ?_
    exact L.last (G.finG [] ⟨rfl, rfl⟩ rfl)
  · intro X posts σ' Ωf hsb hA
    refine L.fa Tryz.underlying86 rfl s41 (hsb.get rfl) rfl ?_
    exact L.last (G.finG [] ⟨rfl, rfl⟩ rfl)
  · intro X posts σ' Ωf hsb hA
    have hx3 := (hA 3 rfl).2.1
    have l16 : σ'.lookup 16 = some (aP b4 1) := Eq.trans (hA 3 rfl).1 (congrArg some hx3)
    refine L.ld 0 o41 l16 rfl rfl rfl ?_
    exact L.last (G.finG [] ⟨rfl, rfl⟩ rfl)
  · intro X posts σ' Ωf hsb hA
    have hx0 := (hA 0 rfl).2.1
    have l13 : σ'.lookup 13 = some (.v (.g zeroC)) := Eq.trans (hA 0 rfl).1 (congrArg some hx0)
    refine L.stog 0 s36 (hsb.get rfl) l13 rfl (by rw [hc2]; rfl) rfl rfl ?_
    exact L.last (G.fin0 (x := .t []) [_] ⟨rfl, rfl⟩ rfl)
  · intro X posts σ' Ωf hsb hA
    have hx2 := (hA 2 rfl).2.1
    have l15 : σ'.lookup 15 = some (aD (.i .i64 m)) := Eq.trans (hA 2 rfl).1 (congrArg some hx2)
    refine L.sto 0 s3 (hsb.get rfl) l15 rfl rfl rfl ?_
    exact L.last (G.fin0 (x := .t []) [_] ⟨rfl, rfl⟩ rfl)
  intro X posts hR
  obtain ⟨hx0, hp0⟩ : X 0 = .v (.g zeroC) ∧ posts 0 = [] := hR 0 rfl
  obtain ⟨hx1, hp1⟩ : X 1 = aP b4 0 ∧ posts 1 = [] := hR 1 rfl
  obtain ⟨hx2, hp2⟩ : X 2 = aD (.i .i64 m) ∧ posts 2 = [] := hR 2 rfl
  obtain ⟨hx3, hp3⟩ : X 3 = aP b4 1 ∧ posts 3 = [] := hR 3 rfl
  obtain ⟨hx4, hp4⟩ : X 4 = aD (.i .i64 k) ∧ posts 4 = [] := hR 4 rfl
  obtain ⟨hx5, hp5⟩ : X 5 = .t [] ∧ posts 5 = [.blk r2 36 zeroC] := hR 5 rfl
  obtain ⟨hx6, hp6⟩ : X 6 = .t [] ∧ posts 6 = [.blk r3 3 [.d (.i .i64 m)]] := hR 6 rfl
  have hpp : (List.range 7).flatMap (leftC 7 (fun i => ([] : List (Option Nat)).getD i none) posts) = [.blk r2 36 zeroC] ++ [.blk r3 3 [.d (.i .i64 m)]] := by
    show posts 0 ++ (posts 1 ++ (posts 2 ++ (posts 3 ++ (posts 4 ++ (posts 5 ++ (posts 6 ++ [])))))) = _
    simp only [hp0, hp1, hp2, hp3, hp4, hp5, hp6, List.nil_append, List.append_nil] <;> rfl
  rw [hpp]
  refine L.sub (σ' := [(17, aD (.i .i64 k)), (4, aP b4 0), (0, aP r2 0), (1, aP r3 0), (2, aP r4 0)]) ⟨congrArg some hx4, rfl, rfl, rfl, rfl, trivial⟩ ?_
  refine L.sto 3 s41 rfl rfl rfl rfl rfl ?_
  refine L.last ?_
  refine G.conv (drop_at (i := 2) rfl rfl) ?_
  refine G.conv (fun w hs => hs.perm perm3) ?_
  exact G.endD Tryz.results38 rfl

set_option maxHeartbeats 2000000 in
theorem f28 (s : ByteArray) (hs : s.size ≤ 800) : FcP Tryz.prog 28 [S_ s] [] (fun x Ω => Ω = [] ∧ ∃ (cs : List CV) (m k : Int), cs.length = 14 ∧ x = .t [.g cs, N_ m, N_ k]) (fun _ => False) := by
  refine FcP.enter Tryz.func28 rfl Tryz.ntmps28 rfl fun X w => ?_
  refine T.rg ?_
  refine L.alloc z36 rfl rfl fun b2 => ?_
  refine L.alloc z3 rfl rfl fun b3 => ?_
  refine L.alloc z41 rfl rfl fun b4 => ?_
  refine L.nil ?_
  refine T.of_seq ?_
  refine T.rg ?_
  refine L.mv rfl rfl ?_
  refine L.lenS Tryz.underlying9 rfl rfl ?_
  refine L.cmp rfl rfl rfl rfl ?_
  refine L.nil ?_
  refine T.cond rfl (fun h8 => ?_) (fun h8 => ?_)
  · skip
    exfalso
    have := of_decide_eq_true h8; omega
  · skip
    refine T.skip ?_
    refine T.go (fun _ _ h => h) ?_
    refine T.rg ?_
    refine L.mf rfl rfl ?_
    refine L.defer rfl rfl rfl ?_
    refine L.nil ?_
    refine T.rg ?_
    refine L.mv rfl rfl ?_
    refine L.bld p90 z90 rfl rfl rfl rfl rfl ?_
    refine L.box rfl rfl fun b13 => ?_
    refine L.as rfl rfl ?_
    refine L.nil ?_
    refine T.rg ?_
    refine L.mv rfl rfl ?_
    refine L.callP [] [_] [_, _, _] rfl e39 rfl rfl (f39 s hs (s.size + 1) _ 0 0 (Nat.zero_le _) (by omega) (by omega) (by omega)) (fun u hu => ?_) ?_
    · obtain ⟨m2, k2, rfl⟩ := hu
      exact G.panR [] [_, _, _] [] e38 (ss := [P_ b2 0, P_ b3 0, P_ b4 0]) (fun _ _ => ⟨rfl, rfl, rfl, trivial⟩) (f38p b2 b3 b4 _ rfl _ _ m2 k2) rfl (fun Ω hΩ => by
        subst hΩ
        exact ⟨_, [], ⟨rfl, _, _, _, rfl, rfl⟩, dropAllQ _, resCCC (i := 2) (j := 1) (k := 0) Tryz.results28 rfl a36 s36 rfl rfl rfl o3 rfl rfl o41 rfl⟩)
    rintro _ _ ⟨ds, j, rfl, hds, h0j, hjs, rfl⟩
    refine L.stog 3 s36 rfl rfl rfl rfl (by rw [List.length_map, hds]; rfl) rfl ?_
    refine L.nil ?_
    refine T.of_seq ?_
    refine T.rg ?_
    refine L.mv rfl rfl ?_
    refine L.callO [] [_] [_, _, _] rfl e40 rfl rfl (f40 _ s j 0 hjs (by omega)) ?_
    rintro _ _ ⟨rfl, rfl⟩
    obtain ⟨a, ha⟩ : ∃ a, blanksN s j = a := ⟨_, rfl⟩
    rw [ha]
    clear ha
    refine L.nil ?_
    refine T.rg ?_
    refine L.mv rfl rfl ?_
    refine L.nilck rfl rfl ?_
    refine L.fa Tryz.underlying90 rfl s3 rfl rfl ?_
    refine L.ld 0 o3 rfl rfl rfl rfl ?_
    refine L.mv rfl rfl ?_
    refine L.lenS Tryz.underlying9 rfl rfl ?_
    refine L.cmp rfl rfl rfl rfl ?_
    refine L.nil ?_
    refine T.cond rfl (fun h24 => ?_) (fun h24 => ?_)
    · skip
      refine T.region ?_
      refine L.mv rfl rfl ?_
      refine L.nilck rfl rfl ?_
      refine L.fa Tryz.underlying90 rfl s3 rfl rfl ?_
      refine L.ld 0 o3 rfl rfl rfl rfl ?_
      refine L.callP [] [] [_, _, _, _] rfl e41 rfl rfl (f41 _ _) (fun u hu => ?_) (fun _ _ h => h.elim)
      subst hu
      exact G.panR [_] [_, _, _] [] e38 (ss := [P_ b2 0, P_ b3 0, P_ b4 0]) (fun _ _ => ⟨rfl, rfl, rfl, trivial⟩) (f38p b2 b3 b4 _ (by rw [List.length_map, hds]) _ _ _ _) rfl (fun Ω hΩ => by
        subst hΩ
        exact ⟨_, [], ⟨rfl, _, _, _, rfl, rfl⟩, dropAllQ _, resCCC (i := 3) (j := 2) (k := 1) Tryz.results28 rfl a36 s36 rfl rfl rfl o3 rfl rfl o41 rfl⟩)
    · skip
      refine T.skip ?_
      refine T.go (fun _ _ h => h) ?_
      refine T.rg ?_
      refine L.ldg (ys := ds.map .d) 3 a36 s36 rfl rfl (by rw [List.drop_zero]; exact List.take_of_length_le (by rw [List.length_map, hds]; exact Nat.le_refl _)) (by rw [List.length_map, hds]) rfl ?_
      refine L.stog 3 s36 rfl rfl rfl (by rw [List.length_map, hds]; rfl) (by rw [List.length_map, hds]; rfl) rfl ?_
      refine L.sto 2 s3 rfl rfl rfl rfl rfl ?_
      refine L.sto 1 s41 rfl rfl rfl rfl rfl ?_
      refine L.nil ?_
      refine T.ret ?_
      exact G.retR [_] [_, _, _] [] e38 (ss := [P_ b2 0, P_ b3 0, P_ b4 0]) (fun _ _ => ⟨rfl, rfl, rfl, trivial⟩) (f38n b2 b3 b4 _ (by rw [List.length_map, hds]) _ _) rfl (fun Ω hΩ => by
        subst hΩ
        exact ⟨_, [], ⟨rfl, _, _, _, (by rw [List.length_map, hds]), rfl⟩, dropAllQ _, resCCC (i := 3) (j := 2) (k := 1) Tryz.results28 rfl a36 s36 rfl (by rw [List.length_map, hds]; rfl) rfl o3 rfl rfl o41 rfl⟩)

theorem f28' (s : ByteArray) (hs : s.size ≤ 800) : Fc Tryz.prog 28 [S_ s] [] (fun x Ω => Ω = [] ∧ ∃ (cs : List CV) (m k : Int), cs.length = 14 ∧ x = .t [.g cs, N_ m, N_ k]) :=
  fun X w args h1 h2 => (f28 s hs X w args h1 h2).mono fun e w' h => h.elim id fun ⟨_, _, h, _⟩ => h.elim
end Go.Proofs.YtimimkdgofiloaaGreatDoor
