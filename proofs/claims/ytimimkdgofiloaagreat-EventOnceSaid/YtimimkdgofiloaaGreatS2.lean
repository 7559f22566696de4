/- Lists: searched, compared, copied. Printed by gen.py. -/
import Derived.Test.YtimimkdgofiloaaGreatS1
import Derived.Test.YtimimkdgofiloaaGreatQj
namespace Go.Proofs.YtimimkdgofiloaaGreat
open Go Go.Q
set_option maxHeartbeats 1000000 in
theorem f12 (a b : List Int) : Fc Tryz.prog 12 [L_ 1 (ints a), L_ 1 (ints b)] [] (Just (aB (decide (a = b)))) := by
  refine Fc.enter Tryz.func12 rfl Tryz.ntmps12 rfl fun X w => ?_
  refine T.rg ?_
  refine L.as rfl rfl ?_
  refine L.nil ?_
  refine T.of_seq ?_
  refine T.rg ?_
  refine L.mv rfl rfl ?_
  refine L.lenL Tryz.underlying49 rfl rfl fun hl7 => ?_
  refine L.mv rfl rfl ?_
  refine L.lenL Tryz.underlying49 rfl rfl fun hl9 => ?_
  refine L.cmp rfl rfl rfl rfl ?_
  refine L.nil ?_
  refine T.condD (p := a.length ≠ b.length) rfl (by simp; omega) (fun h10 => ?_) (fun h10 => ?_)
  · skip
    refine T.rg ?_
    refine L.as rfl rfl ?_
    refine L.nil ?_
    refine T.ret ?_
    exact G.ret (res1 Tryz.results12 rfl) ⟨rfl, congrArg aB (by have h0 : a ≠ b := (fun e => h10 (by rw [e])); simp [h0])⟩
  · skip
    refine T.skip ?_
    refine T.go (fun _ _ h => h) ?_
    refine T.of_seq ?_
    refine T.rg ?_
    refine L.mv rfl rfl ?_
    refine L.lenL Tryz.underlying49 rfl rfl fun hl12 => ?_
    refine L.mv rfl rfl ?_
    refine L.nil ?_
    refine T.block ?_
    have hl : a.length = b.length := by omega
    refine T.loop (fun m σ Ω => ∃ k : Nat, k ≤ a.length ∧ m = a.length - k ∧ a.take k = b.take k ∧ σ = [(13, aN k), (12, aN (ints a).length), (1, aL 1 (ints b)), (0, aL 1 (ints a))] ∧ Ω = []) (a.length) _ (⟨0, by omega, by omega, by simp, rfl, rfl⟩) (by repeat constructor) ?_
    rintro m σ Ω ⟨k, hk, rfl, hx, rfl, rfl⟩
    have hlen := ints_len a
    refine T.rg ?_
    refine L.cmp rfl rfl rfl rfl ?_
    refine L.nil ?_
    refine T.of_seq ?_
    refine T.cond rfl (fun h14 => ?_) (fun h14 => ?_)
    · skip
      have hlt : k < a.length := by simpa using h14
      have hlt2 : k < b.length := by omega
      refine T.skip ?_
      refine T.go (fun _ _ h => h) ?_
      refine T.of_seq ?_
      refine T.block ?_
      refine T.rg ?_
      refine L.mv rfl rfl ?_
      refine L.as rfl rfl ?_
      refine L.nil ?_
      refine T.of_seq ?_
      refine T.drawD 8 [(0, aL 1 (ints a)), (1, aL 1 (ints b)), (5, aN k), (12, aN (ints a).length), (13, aN k)] [aL 1 (ints a), aN k, .v (.c (.ip [D.i .i64 a[k]])), aN a[k], aL 1 (ints b), aN k, .v (.c (.ip [D.i .i64 b[k]])), aN b[k]] hmixed rfl rfl rfl rfl (by repeat constructor) ⟨?_, ?_, ?_, ?_, ?_, ?_, ?_, ?_, trivial⟩ ?_
      · intro σ' Ωf hsb hA
        refine L.mv (hsb.get rfl) rfl ?_
        exact L.last (G.finD rfl)
      · intro σ' Ωf hsb hA
        refine L.mv (hsb.get rfl) rfl ?_
        exact L.last (G.finD rfl)
      · intro σ' Ωf hsb hA
        refine L.ixL k _ Tryz.underlying49 s3 (hA 0 rfl) (hA 1 rfl) rfl (ints_get hlt) rfl ?_
        exact L.last (G.finD rfl)
      · intro σ' Ωf hsb hA
        refine L.li o3 (hA 2 rfl) rfl ?_
        exact L.last (G.finD rfl)
      · intro σ' Ωf hsb hA
        refine L.mv (hsb.get rfl) rfl ?_
        exact L.last (G.finD rfl)
      · intro σ' Ωf hsb hA
        refine L.mv (hsb.get rfl) rfl ?_
        exact L.last (G.finD rfl)
      · intro σ' Ωf hsb hA
        refine L.ixL k _ Tryz.underlying49 s3 (hA 4 rfl) (hA 5 rfl) rfl (ints_get hlt2) rfl ?_
        exact L.last (G.finD rfl)
      · intro σ' Ωf hsb hA
        refine L.li o3 (hA 6 rfl) rfl ?_
        exact L.last (G.finD rfl)
      refine L.cmp rfl rfl rfl rfl ?_
      refine L.last ?_
      refine T.go (fun _ _ h => h) ?_
      refine T.cond rfl (fun h24 => ?_) (fun h24 => ?_)
      · skip
        refine T.rg ?_
        refine L.as rfl rfl ?_
        refine L.nil ?_
        refine T.ret ?_
        exact G.ret (res1 Tryz.results12 rfl) ⟨rfl, congrArg aB (by have h0 : a ≠ b := (fun e => (by subst e; simp at h24)); simp [h0])⟩
      · skip
        refine T.skip ?_
        refine T.go (fun _ _ h => h) ?_
        refine T.region ?_
        refine L.ar ((k + 1 : Nat) : Int) rfl rfl rfl (by omega) rfl ?_
        refine L.mv rfl rfl ?_
        refine L.last ?_
        refine G.round (a.length - (k + 1)) _ (by omega) ⟨k + 1, by omega, rfl, eq_take_step hl hlt hx (by simpa using h24), rfl, rfl⟩ (by repeat constructor)
    · skip
      have hge : a.length ≤ k := by simpa using h14
      refine T.exit ?_
      refine T.go (fun _ _ h => h) ?_
      refine T.rg ?_
      refine L.as rfl rfl ?_
      refine L.nil ?_
      refine T.ret ?_
      exact G.ret (res1 Tryz.results12 rfl) ⟨rfl, congrArg aB (by rw [List.take_of_length_le hge, List.take_of_length_le (by omega)] at hx; simp [hx])⟩

set_option maxHeartbeats 1000000 in
theorem f34 (l : List ByteArray) (n : Nat) (hn : n ≤ 1000000) : Fc Tryz.prog 34 [L_ 1 (strs l), N_ (n : Int)] [] (Just (aL 1 (strs (few l n)))) := by
  refine Fc.enter Tryz.func34 rfl Tryz.ntmps34 rfl fun X w => ?_
  refine T.rg ?_
  refine L.as rfl rfl ?_
  refine L.nil ?_
  refine T.rg ?_
  refine L.as rfl rfl ?_
  refine L.nil ?_
  refine T.of_seq ?_
  refine T.rg ?_
  refine L.as rfl rfl ?_
  refine L.nil ?_
  refine T.block ?_
  refine T.conv (nil_row 9 1) ?_
  refine T.loop (fun m σ Ω => ∃ (k : Nat) (v : Value), k ≤ l.length ∧ k ≤ n ∧ m = l.length - k ∧ σ = [(6, aN k), (5, aR v), (1, aN (n : Int)), (0, aL 1 (strs l))] ∧ Ω = [.row v 9 1 (strs ((l.take k).map (cutS 20)))]) (l.length) _ (⟨0, _, by omega, by omega, by omega, rfl, rfl⟩) (by repeat constructor) ?_
  rintro m σ Ω ⟨k, v, hk, hkn, rfl, rfl, rfl⟩
  have hlen := strs_len l
  refine T.of_seq ?_
  refine T.rg ?_
  refine L.mv rfl rfl ?_
  refine L.mv rfl rfl ?_
  refine L.lenL Tryz.underlying25 rfl rfl fun hl9 => ?_
  refine L.cmp rfl rfl rfl rfl ?_
  refine L.mv rfl rfl ?_
  refine L.caseB 11 rfl (fun h11 => ?_) (fun h11 => ?_)
  · skip
    have hlt : k < l.length := by simpa using h11
    refine L.on rfl rfl ?_
    refine L.mv rfl rfl ?_
    refine L.on rfl rfl ?_
    refine L.mv rfl rfl ?_
    refine L.on rfl rfl ?_
    refine L.cmp rfl rfl rfl rfl ?_
    refine L.pkT rfl rfl rfl ?_
    refine L.nil ?_
    refine T.cond rfl (fun h15 => ?_) (fun h15 => ?_)
    · skip
      have hltn : k < n := by simpa using h15
      refine T.skip ?_
      refine T.go (fun _ _ h => h) ?_
      refine T.of_seq ?_
      refine T.block ?_
      refine T.region ?_
      refine L.mv rfl rfl ?_
      refine L.mv rfl rfl ?_
      refine L.mv rfl rfl ?_
      refine L.ixL k _ Tryz.underlying25 s9 rfl rfl rfl (strs_get hlt) rfl ?_
      refine L.li o9 rfl rfl ?_
      refine L.call e19 rfl rfl (f19 _ 20 (by omega)) ?_
      rintro _ _ ⟨rfl, rfl⟩
      refine L.bsD rfl Tryz.underlying25 i9 rfl rfl rfl rfl rfl ?_
      refine L.app 0 Tryz.underlying25 i9 rfl rfl rfl rfl rfl (by simp; omega) (by simp; omega) rfl (fun _ => rfl) fun v25 => ?_
      refine L.as rfl rfl ?_
      refine L.last ?_
      refine T.go (fun _ _ h => h) ?_
      refine T.region ?_
      refine L.mv rfl rfl ?_
      refine L.ar ((k + 1 : Nat) : Int) rfl rfl rfl (by omega) rfl ?_
      refine L.as rfl rfl ?_
      refine L.last ?_
      refine G.round (l.length - (k + 1)) _ (by omega) ⟨k + 1, _, by omega, by omega, rfl, rfl, ?_⟩ (by repeat constructor)
      rw [take_map_snoc _ _ _ hlt, strs_snoc]
      all_goals rfl
    · skip
      have hgen : n ≤ k := by simpa using h15
      refine T.exit ?_
      refine T.go (fun _ _ h => h) ?_
      refine T.rg ?_
      refine L.mv rfl rfl ?_
      refine L.as rfl rfl ?_
      refine L.nil ?_
      refine T.ret ?_
      refine G.pub 4 0 rfl rfl rfl ?_
      exact G.ret (res1 Tryz.results34 rfl) ⟨rfl, by have : k = n := (by omega); subst this; rfl⟩
  · skip
    have hge : l.length ≤ k := by simpa using h11
    refine L.off rfl rfl rfl rfl ?_
    refine L.off rfl rfl rfl rfl ?_
    refine L.off rfl rfl rfl rfl ?_
    refine L.pkF rfl rfl rfl ?_
    refine L.nil ?_
    refine T.condF rfl ?_
    refine T.exit ?_
    refine T.go (fun _ _ h => h) ?_
    refine T.rg ?_
    refine L.mv rfl rfl ?_
    refine L.as rfl rfl ?_
    refine L.nil ?_
    refine T.ret ?_
    refine G.pub 4 0 rfl rfl rfl ?_
    exact G.ret (res1 Tryz.results34 rfl) ⟨rfl, by unfold few; rw [List.take_of_length_le hge, List.take_of_length_le (by omega)]⟩

set_option maxHeartbeats 1000000 in
theorem f35 (l : List (ByteArray × Int)) (n : Nat) (hn : n ≤ 1000000) : Fc Tryz.prog 35 [L_ 2 (prs l), N_ (n : Int)] [] (Just (aL 2 (prs (fewP l n)))) := by
  refine Fc.enter Tryz.func35 rfl Tryz.ntmps35 rfl fun X w => ?_
  refine T.rg ?_
  refine L.as rfl rfl ?_
  refine L.nil ?_
  refine T.rg ?_
  refine L.as rfl rfl ?_
  refine L.nil ?_
  refine T.of_seq ?_
  refine T.rg ?_
  refine L.as rfl rfl ?_
  refine L.nil ?_
  refine T.block ?_
  refine T.conv (nil_row 112 2) ?_
  refine T.loop (fun m σ Ω => ∃ (k : Nat) (v : Value), k ≤ l.length ∧ k ≤ n ∧ m = l.length - k ∧ σ = [(6, aN k), (5, aR v), (1, aN (n : Int)), (0, aL 2 (prs l))] ∧ Ω = [.row v 112 2 (prs ((l.take k).map fun p => (cutS 20 p.1, p.2)))]) (l.length) _ (⟨0, _, by omega, by omega, by omega, rfl, rfl⟩) (by repeat constructor) ?_
  rintro m σ Ω ⟨k, v, hk, hkn, rfl, rfl, rfl⟩
  have hlen := prs_len l
  refine T.of_seq ?_
  refine T.rg ?_
  refine L.mv rfl rfl ?_
  refine L.mv rfl rfl ?_
  refine L.lenL Tryz.underlying36 rfl rfl fun hl9 => ?_
  refine L.cmp rfl rfl rfl rfl ?_
  refine L.mv rfl rfl ?_
  refine L.caseB 11 rfl (fun h11 => ?_) (fun h11 => ?_)
  · skip
    have hlt : k < l.length := by simpa using h11
    refine L.on rfl rfl ?_
    refine L.mv rfl rfl ?_
    refine L.on rfl rfl ?_
    refine L.mv rfl rfl ?_
    refine L.on rfl rfl ?_
    refine L.cmp rfl rfl rfl rfl ?_
    refine L.pkT rfl rfl rfl ?_
    refine L.nil ?_
    refine T.cond rfl (fun h15 => ?_) (fun h15 => ?_)
    · skip
      have hltn : k < n := by simpa using h15
      refine T.skip ?_
      refine T.go (fun _ _ h => h) ?_
      refine T.of_seq ?_
      refine T.block ?_
      refine T.drawD 14 [(0, aL 2 (prs l)), (1, aN (n : Int)), (6, aN k), (5, aR v)] [aR v, aL 2 (prs l), aN k, .v (.c (.ip [D.s l[k].1, D.i .i64 l[k].2])), .v (.c (.ip [D.s l[k].1, D.i .i64 l[k].2])), aS l[k].1, aS (cutS 20 l[k].1), aL 2 (prs l), aN k, .v (.c (.ip [D.s l[k].1, D.i .i64 l[k].2])), .v (.c (.ip [D.i .i64 l[k].2])), aN l[k].2, .v (.g [.d (.s (cutS 20 l[k].1)), .d (.i .i64 l[k].2)]), aL 2 [[D.s (cutS 20 l[k].1), D.i .i64 l[k].2]]] hmixed rfl rfl rfl rfl (by repeat constructor) ⟨?_, ?_, ?_, ?_, ?_, ?_, ?_, ?_, ?_, ?_, ?_, ?_, ?_, ?_, trivial⟩ ?_
      · intro σ' Ωf hsb hA
        refine L.mv (hsb.get rfl) rfl ?_
        exact L.last (G.finD rfl)
      · intro σ' Ωf hsb hA
        refine L.mv (hsb.get rfl) rfl ?_
        exact L.last (G.finD rfl)
      · intro σ' Ωf hsb hA
        refine L.mv (hsb.get rfl) rfl ?_
        exact L.last (G.finD rfl)
      · intro σ' Ωf hsb hA
        refine L.ixL k _ Tryz.underlying36 s112 (hA 1 rfl) (hA 2 rfl) rfl (prs_get hlt) rfl ?_
        exact L.last (G.finD rfl)
      · intro σ' Ωf hsb hA
        refine L.fi Tryz.underlying112 rfl s9 (hA 3 rfl) rfl ?_
        exact L.last (G.finD rfl)
      · intro σ' Ωf hsb hA
        refine L.li o9 (hA 4 rfl) rfl ?_
        exact L.last (G.finD rfl)
      · intro σ' Ωf hsb hA
        refine L.call e19 (evs2 (hA 5 rfl) rfl) rfl (f19 _ 20 (by omega)) ?_
        rintro _ _ ⟨rfl, rfl⟩
        exact L.last (G.finD rfl)
      · intro σ' Ωf hsb hA
        refine L.mv (hsb.get rfl) rfl ?_
        exact L.last (G.finD rfl)
      · intro σ' Ωf hsb hA
        refine L.mv (hsb.get rfl) rfl ?_
        exact L.last (G.finD rfl)
      · intro σ' Ωf hsb hA
        refine L.ixL k _ Tryz.underlying36 s112 (hA 7 rfl) (hA 8 rfl) rfl (prs_get hlt) rfl ?_
        exact L.last (G.finD rfl)
      · intro σ' Ωf hsb hA
        refine L.fi Tryz.underlying112 rfl s3 (hA 9 rfl) rfl ?_
        exact L.last (G.finD rfl)
      · intro σ' Ωf hsb hA
        refine L.li o3 (hA 10 rfl) rfl ?_
        exact L.last (G.finD rfl)
      · intro σ' Ωf hsb hA
        refine L.bld p112 z112 rfl rfl (evp2 (hA 6 rfl) (hA 11 rfl)) rfl rfl ?_
        exact L.last (G.finD rfl)
      · intro σ' Ωf hsb hA
        refine L.bsD rfl Tryz.underlying36 i112 rfl rfl (evp1 (hA 12 rfl)) rfl rfl ?_
        exact L.last (G.finD rfl)
      refine L.app 0 Tryz.underlying36 i112 rfl rfl rfl rfl rfl (by simp; omega) (by simp; omega) rfl (fun _ => rfl) fun v32 => ?_
      refine L.as rfl rfl ?_
      refine L.last ?_
      refine T.go (fun _ _ h => h) ?_
      refine T.region ?_
      refine L.mv rfl rfl ?_
      refine L.ar ((k + 1 : Nat) : Int) rfl rfl rfl (by omega) rfl ?_
      refine L.as rfl rfl ?_
      refine L.last ?_
      refine G.round (l.length - (k + 1)) _ (by omega) ⟨k + 1, _, by omega, by omega, rfl, rfl, ?_⟩ (by repeat constructor)
      rw [take_map_snoc _ _ _ hlt, prs_snoc]
      all_goals rfl
    · skip
      have hgen : n ≤ k := by simpa using h15
      refine T.exit ?_
      refine T.go (fun _ _ h => h) ?_
      refine T.rg ?_
      refine L.mv rfl rfl ?_
      refine L.as rfl rfl ?_
      refine L.nil ?_
      refine T.ret ?_
      refine G.pub 4 0 rfl rfl rfl ?_
      exact G.ret (res1 Tryz.results35 rfl) ⟨rfl, by have : k = n := (by omega); subst this; rfl⟩
  · skip
    have hge : l.length ≤ k := by simpa using h11
    refine L.off rfl rfl rfl rfl ?_
    refine L.off rfl rfl rfl rfl ?_
    refine L.off rfl rfl rfl rfl ?_
    refine L.pkF rfl rfl rfl ?_
    refine L.nil ?_
    refine T.condF rfl ?_
    refine T.exit ?_
    refine T.go (fun _ _ h => h) ?_
    refine T.rg ?_
    refine L.mv rfl rfl ?_
    refine L.as rfl rfl ?_
    refine L.nil ?_
    refine T.ret ?_
    refine G.pub 4 0 rfl rfl rfl ?_
    exact G.ret (res1 Tryz.results35 rfl) ⟨rfl, by unfold fewP; rw [List.take_of_length_le hge, List.take_of_length_le (by omega)]⟩

set_option maxHeartbeats 1000000 in
theorem f15 (l : List (ByteArray × Int)) (hl : l.length ≤ 1000000) : Fc Tryz.prog 15 [L_ 2 (prs l)] [] (Just (aL 2 (prs l))) := by
  refine Fc.enter Tryz.func15 rfl Tryz.ntmps15 rfl fun X w => ?_
  refine T.rg ?_
  refine L.as rfl rfl ?_
  refine L.nil ?_
  refine T.rg ?_
  refine L.as rfl rfl ?_
  refine L.nil ?_
  refine T.of_seq ?_
  refine T.rg ?_
  refine L.mv rfl rfl ?_
  refine L.lenL Tryz.underlying36 rfl rfl fun hl7 => ?_
  refine L.mv rfl rfl ?_
  refine L.nil ?_
  refine T.block ?_
  refine T.conv (nil_row 110 2) ?_
  refine T.loop (fun m σ Ω => ∃ (k : Nat) (v : Value), k ≤ l.length ∧ m = l.length - k ∧ σ = [(8, aN k), (7, aN (prs l).length), (6, aL 2 (prs l)), (3, aR v)] ∧ Ω = [.row v 110 2 (prs (l.take k))]) (l.length) _ (⟨0, _, by omega, by omega, rfl, rfl⟩) (by repeat constructor) ?_
  rintro m σ Ω ⟨k, v, hk, rfl, rfl, rfl⟩
  have hlen := prs_len l
  refine T.rg ?_
  refine L.cmp rfl rfl rfl rfl ?_
  refine L.nil ?_
  refine T.of_seq ?_
  refine T.cond rfl (fun h9 => ?_) (fun h9 => ?_)
  · skip
    have hlt : k < l.length := by simpa using h9
    refine T.skip ?_
    refine T.go (fun _ _ h => h) ?_
    refine T.of_seq ?_
    refine T.block ?_
    refine T.rg ?_
    refine L.ixL k _ Tryz.underlying36 s112 rfl rfl rfl (prs_get hlt) rfl ?_
    refine L.lig a112 s112 rfl rfl rfl rfl ?_
    refine L.alloc z112 rfl rfl fun b5 => ?_
    refine L.stog 0 s112 rfl rfl rfl rfl rfl rfl ?_
    refine L.nil ?_
    refine T.region ?_
    refine L.mv rfl rfl ?_
    refine L.ldg 0 a112 s112 rfl rfl rfl rfl rfl ?_
    refine L.bsD rfl Tryz.underlying28 i110 rfl rfl rfl rfl rfl ?_
    refine L.app 1 Tryz.underlying28 i110 rfl rfl rfl rfl rfl (by simp; omega) (by simp; omega) rfl (fun _ => rfl) fun v15 => ?_
    refine L.as rfl rfl ?_
    refine L.last ?_
    refine T.go (fun _ _ h => h) ?_
    refine T.region ?_
    refine L.ar ((k + 1 : Nat) : Int) rfl rfl rfl (by omega) rfl ?_
    refine L.mv rfl rfl ?_
    refine L.last ?_
    refine G.conv (drop_at (i := 0) rfl rfl) ?_
    refine G.round (l.length - (k + 1)) _ (by omega) ⟨k + 1, _, by omega, rfl, rfl, ?_⟩ (by repeat constructor)
    rw [List.take_add_one, List.getElem?_eq_getElem hlt]
    exact (congrArg (fun z => [Ob.row _ 110 2 z]) (prs_snoc _ _)).symm
  · skip
    have hge : l.length ≤ k := by simpa using h9
    refine T.exit ?_
    refine T.go (fun _ _ h => h) ?_
    refine T.rg ?_
    refine L.mv rfl rfl ?_
    refine L.as rfl rfl ?_
    refine L.nil ?_
    refine T.ret ?_
    refine G.pub 2 0 rfl rfl rfl ?_
    exact G.ret (res1 Tryz.results15 rfl) ⟨rfl, by rw [List.take_of_length_le hge]⟩
end Go.Proofs.YtimimkdgofiloaaGreat
