/- Lists: searched, compared, copied. Printed by gen.py. -/
import Derived.Test.YtlibfaghiogekaaS1
import Derived.Test.YtlibfaghiogekaaQj
namespace Go.Proofs.Ytlibfaghiogekaa
open Go Go.Q
set_option maxHeartbeats 400000 in
theorem f62 (l : List ByteArray) (x : ByteArray) : Fc Try.prog 62 [L_ 1 (strs l), S_ x] [] (Just (aB (l.any fun y => decide (y = x)))) := by
  refine Fc.enter Try.func62 rfl Try.ntmps62 rfl fun X w => ?_
  refine T.rg ?_
  refine L.as rfl rfl ?_
  refine L.nil ?_
  refine T.of_seq ?_
  refine T.rg ?_
  refine L.mv rfl rfl ?_
  refine L.lenL Try.underlying24 rfl rfl fun hl8 => ?_
  refine L.mv rfl rfl ?_
  refine L.nil ?_
  refine T.block ?_
  refine T.loop (fun m σ Ω => ∃ k : Nat, k ≤ l.length ∧ m = l.length - k ∧ (l.take k).any (fun y => decide (y = x)) = false ∧ σ = [(9, aN k), (8, aN (strs l).length), (7, aL 1 (strs l)), (1, aS x)] ∧ Ω = []) (l.length) _ (⟨0, by omega, by omega, by simp, rfl, rfl⟩) (by repeat constructor) ?_
  rintro m σ Ω ⟨k, hk, rfl, hx, rfl, rfl⟩
  have hlen := strs_len l
  refine T.rg ?_
  refine L.cmp rfl rfl rfl rfl ?_
  refine L.nil ?_
  refine T.of_seq ?_
  refine T.cond rfl (fun h10 => ?_) (fun h10 => ?_)
  · skip
    have hlt : k < l.length := by simpa using h10
    refine T.skip ?_
    refine T.go (fun _ _ h => h) ?_
    refine T.of_seq ?_
    refine T.block ?_
    refine T.rg ?_
    refine L.ixL k _ Try.underlying24 s9 rfl rfl rfl (strs_get hlt) rfl ?_
    refine L.li o9 rfl rfl ?_
    refine L.as rfl rfl ?_
    refine L.nil ?_
    refine T.rg ?_
    refine L.mv rfl rfl ?_
    refine L.mv rfl rfl ?_
    refine L.eqS rfl rfl rfl ?_
    refine L.nil ?_
    refine T.cond rfl (fun h15 => ?_) (fun h15 => ?_)
    · skip
      refine T.rg ?_
      refine L.as rfl rfl ?_
      refine L.nil ?_
      refine T.ret ?_
      refine G.ret (res1 Try.results62 rfl) ?_
      refine ⟨rfl, congrArg aB ?_⟩
      symm
      rw [List.any_eq_true]
      exact ⟨l[k], List.getElem_mem hlt, by simpa using h15⟩
    · skip
      refine T.skip ?_
      refine T.go (fun _ _ h => h) ?_
      refine T.region ?_
      refine L.ar ((k + 1 : Nat) : Int) rfl rfl rfl (by omega) rfl ?_
      refine L.mv rfl rfl ?_
      refine L.last ?_
      refine G.round (l.length - (k + 1)) _ (by omega) ⟨k + 1, by omega, rfl, ?_, rfl, rfl⟩ (by repeat constructor)
      rw [List.take_add_one, List.getElem?_eq_getElem hlt, List.any_append, hx]
      simpa using h15
  · skip
    have hge : l.length ≤ k := by simpa using h10
    refine T.exit ?_
    refine T.go (fun _ _ h => h) ?_
    refine T.rg ?_
    refine L.as rfl rfl ?_
    refine L.nil ?_
    refine T.ret ?_
    refine G.ret (res1 Try.results62 rfl) ?_
    refine ⟨rfl, congrArg aB ?_⟩
    rw [List.take_of_length_le hge] at hx
    exact hx.symm

set_option maxHeartbeats 1000000 in
theorem f11 (a b : List Int) : Fc Try.prog 11 [L_ 1 (ints a), L_ 1 (ints b)] [] (Just (aB (decide (a = b)))) := by
  refine Fc.enter Try.func11 rfl Try.ntmps11 rfl fun X w => ?_
  refine T.rg ?_
  refine L.as rfl rfl ?_
  refine L.nil ?_
  refine T.of_seq ?_
  refine T.rg ?_
  refine L.mv rfl rfl ?_
  refine L.lenL Try.underlying52 rfl rfl fun hl7 => ?_
  refine L.mv rfl rfl ?_
  refine L.lenL Try.underlying52 rfl rfl fun hl9 => ?_
  refine L.cmp rfl rfl rfl rfl ?_
  refine L.nil ?_
  refine T.condD (p := a.length ≠ b.length) rfl (by simp; omega) (fun h10 => ?_) (fun h10 => ?_)
  · skip
    refine T.rg ?_
    refine L.as rfl rfl ?_
    refine L.nil ?_
    refine T.ret ?_
    exact G.ret (res1 Try.results11 rfl) ⟨rfl, congrArg aB (by have h0 : a ≠ b := (fun e => h10 (by rw [e])); simp [h0])⟩
  · skip
    refine T.skip ?_
    refine T.go (fun _ _ h => h) ?_
    refine T.of_seq ?_
    refine T.rg ?_
    refine L.mv rfl rfl ?_
    refine L.lenL Try.underlying52 rfl rfl fun hl12 => ?_
    refine L.mv rfl rfl ?_
    refine L.nil ?_
    refine T.block ?_
    have hl : a.length = b.length := by omega
    refine T.loop (fun m σ Ω => ∃ k : Nat, k ≤ a.length ∧ m = a.length - k ∧ a.take k = b.take k ∧ σ = [(13, aN k), (12, aN (ints a).length), (1, aL 1 (ints b)), (0, aL 1 (ints a))] ∧ Ω = []) (a.length) _ (⟨0, by omega, by omega, by simp, rfl, rfl⟩) (by repeat constructor) ?_
    rintro m σ Ω ⟨k, hk, rfl, hx, rfl, rfl⟩
    have hlen := ints_len a
    refine T.rg ?_
    refine L.cmp rfl rfl rfl rfl ?_
    refine L.nil ?_
    refine T.of_seq ?_
    refine T.cond rfl (fun h14 => ?_) (fun h14 => ?_)
    · skip
      have hlt : k < a.length := by simpa using h14
      have hlt2 : k < b.length := by omega
      refine T.skip ?_
      refine T.go (fun _ _ h => h) ?_
      refine T.of_seq ?_
      refine T.block ?_
      refine T.rg ?_
      refine L.mv rfl rfl ?_
      refine L.as rfl rfl ?_
      refine L.nil ?_
      refine T.of_seq ?_
      refine T.drawD 8 [(0, aL 1 (ints a)), (1, aL 1 (ints b)), (5, aN k), (12, aN (ints a).length), (13, aN k)] [aL 1 (ints a), aN k, .v (.c (.ip [D.i .i64 a[k]])), aN a[k], aL 1 (ints b), aN k, .v (.c (.ip [D.i .i64 b[k]])), aN b[k]] hmixed rfl rfl rfl rfl (by repeat constructor) ⟨?_, ?_, ?_, ?_, ?_, ?_, ?_, ?_, trivial⟩ ?_
      · intro σ' Ωf hsb hA
        refine L.mv (hsb.get rfl) rfl ?_
        exact L.last (G.finD rfl)
      · intro σ' Ωf hsb hA
        refine L.mv (hsb.get rfl) rfl ?_
        exact L.last (G.finD rfl)
      · intro σ' Ωf hsb hA
        refine L.ixL k _ Try.underlying52 s3 (hA 0 rfl) (hA 1 rfl) rfl (ints_get hlt) rfl ?_
        exact L.last (G.finD rfl)
      · intro σ' Ωf hsb hA
        refine L.li o3 (hA 2 rfl) rfl ?_
        exact L.last (G.finD rfl)
      · intro σ' Ωf hsb hA
        refine L.mv (hsb.get rfl) rfl ?_
        exact L.last (G.finD rfl)
      · intro σ' Ωf hsb hA
        refine L.mv (hsb.get rfl) rfl ?_
        exact L.last (G.finD rfl)
      · intro σ' Ωf hsb hA
        refine L.ixL k _ Try.underlying52 s3 (hA 4 rfl) (hA 5 rfl) rfl (ints_get hlt2) rfl ?_
        exact L.last (G.finD rfl)
      · intro σ' Ωf hsb hA
        refine L.li o3 (hA 6 rfl) rfl ?_
        exact L.last (G.finD rfl)
      refine L.cmp rfl rfl rfl rfl ?_
      refine L.last ?_
      refine T.go (fun _ _ h => h) ?_
      refine T.cond rfl (fun h24 => ?_) (fun h24 => ?_)
      · skip
        refine T.rg ?_
        refine L.as rfl rfl ?_
        refine L.nil ?_
        refine T.ret ?_
        exact G.ret (res1 Try.results11 rfl) ⟨rfl, congrArg aB (by have h0 : a ≠ b := (fun e => (by subst e; simp at h24)); simp [h0])⟩
      · skip
        refine T.skip ?_
        refine T.go (fun _ _ h => h) ?_
        refine T.region ?_
        refine L.ar ((k + 1 : Nat) : Int) rfl rfl rfl (by omega) rfl ?_
        refine L.mv rfl rfl ?_
        refine L.last ?_
        refine G.round (a.length - (k + 1)) _ (by omega) ⟨k + 1, by omega, rfl, eq_take_step hl hlt hx (by simpa using h24), rfl, rfl⟩ (by repeat constructor)
    · skip
      have hge : a.length ≤ k := by simpa using h14
      refine T.exit ?_
      refine T.go (fun _ _ h => h) ?_
      refine T.rg ?_
      refine L.as rfl rfl ?_
      refine L.nil ?_
      refine T.ret ?_
      exact G.ret (res1 Try.results11 rfl) ⟨rfl, congrArg aB (by rw [List.take_of_length_le hge, List.take_of_length_le (by omega)] at hx; simp [hx])⟩

set_option maxHeartbeats 1000000 in
theorem f15 (a b : List Int) : Fc Try.prog 15 [L_ 1 (ints a), L_ 1 (ints b)] [] (Just (aB (withinB a b))) := by
  refine Fc.enter Try.func15 rfl Try.ntmps15 rfl fun X w => ?_
  refine T.rg ?_
  refine L.as rfl rfl ?_
  refine L.nil ?_
  refine T.of_seq ?_
  refine T.rg ?_
  refine L.mv rfl rfl ?_
  refine L.lenL Try.underlying52 rfl rfl fun hl11 => ?_
  refine L.mv rfl rfl ?_
  refine L.nil ?_
  refine T.block ?_
  refine T.loop (fun m σ Ω => ∃ k : Nat, k ≤ a.length ∧ m = a.length - k ∧ (a.take k).all (fun x => b.any fun y => y == x) = true ∧ σ = [(12, aN k), (11, aN (ints a).length), (10, aL 1 (ints a)), (1, aL 1 (ints b))] ∧ Ω = []) (a.length) _ (⟨0, by omega, by omega, by simp, rfl, rfl⟩) (by repeat constructor) ?_
  rintro m σ Ω ⟨k, hk, rfl, hx, rfl, rfl⟩
  have hlen := ints_len a
  refine T.rg ?_
  refine L.cmp rfl rfl rfl rfl ?_
  refine L.nil ?_
  refine T.of_seq ?_
  refine T.cond rfl (fun h13 => ?_) (fun h13 => ?_)
  · skip
    have hlt : k < a.length := by simpa using h13
    refine T.skip ?_
    refine T.go (fun _ _ h => h) ?_
    refine T.of_seq ?_
    refine T.block ?_
    refine T.rg ?_
    refine L.ixL k _ Try.underlying52 s3 rfl rfl rfl (ints_get hlt) rfl ?_
    refine L.li o3 rfl rfl ?_
    refine L.as rfl rfl ?_
    refine L.nil ?_
    refine T.rg ?_
    refine L.as rfl rfl ?_
    refine L.nil ?_
    refine T.of_seq ?_
    refine T.rg ?_
    refine L.mv rfl rfl ?_
    refine L.lenL Try.underlying52 rfl rfl fun hl17 => ?_
    refine L.mv rfl rfl ?_
    refine L.nil ?_
    refine T.block ?_
    refine T.loop (fun m σ Ω => ∃ j : Nat, j ≤ b.length ∧ m = b.length - j ∧ σ = [(18, aN j), (17, aN (ints b).length), (16, aL 1 (ints b)), (7, aB ((b.take j).any fun y => y == a[k])), (6, aN a[k]), (12, aN k), (11, aN (ints a).length), (10, aL 1 (ints a)), (1, aL 1 (ints b))] ∧ Ω = []) (b.length) _ (⟨0, by omega, by omega, rfl, rfl⟩) (by repeat constructor) ?_
    rintro m σ Ω ⟨j, hj, rfl, rfl, rfl⟩
    have hlenb := ints_len b
    refine T.rg ?_
    refine L.cmp rfl rfl rfl rfl ?_
    refine L.nil ?_
    refine T.of_seq ?_
    refine T.cond rfl (fun h19 => ?_) (fun h19 => ?_)
    · skip
      have hltj : j < b.length := by simpa using h19
      refine T.skip ?_
      refine T.go (fun _ _ h => h) ?_
      refine T.of_seq ?_
      refine T.block ?_
      refine T.rg ?_
      refine L.ixL j _ Try.underlying52 s3 rfl rfl rfl (ints_get hltj) rfl ?_
      refine L.li o3 rfl rfl ?_
      refine L.as rfl rfl ?_
      refine L.nil ?_
      refine T.region ?_
      refine L.mv rfl rfl ?_
      refine L.mv rfl rfl ?_
      refine L.caseB 23 rfl (fun h23 => ?_) (fun h23 => ?_)
      · skip
        refine L.off rfl rfl rfl rfl ?_
        refine L.off rfl rfl rfl rfl ?_
        refine L.off rfl rfl rfl rfl ?_
        refine L.pkT rfl rfl rfl ?_
        refine L.as rfl rfl ?_
        refine L.last ?_
        refine T.go (fun _ _ h => h) ?_
        refine T.region ?_
        refine L.ar ((j + 1 : Nat) : Int) rfl rfl rfl (by omega) rfl ?_
        refine L.mv rfl rfl ?_
        refine L.last ?_
        refine G.round (b.length - (j + 1)) _ (by omega) ⟨j + 1, by omega, rfl, rfl, rfl⟩ ⟨rfl, rfl, rfl, ?_, rfl, rfl, rfl, rfl, rfl, trivial⟩
        rw [List.take_add_one, List.getElem?_eq_getElem hltj, List.any_append, h23]
        rfl
      · skip
        refine L.on rfl rfl ?_
        refine L.mv rfl rfl ?_
        refine L.on rfl rfl ?_
        refine L.mv rfl rfl ?_
        refine L.on rfl rfl ?_
        refine L.cmp rfl rfl rfl rfl ?_
        refine L.pkF rfl rfl rfl ?_
        refine L.as rfl rfl ?_
        refine L.last ?_
        refine T.go (fun _ _ h => h) ?_
        refine T.region ?_
        refine L.ar ((j + 1 : Nat) : Int) rfl rfl rfl (by omega) rfl ?_
        refine L.mv rfl rfl ?_
        refine L.last ?_
        refine G.round (b.length - (j + 1)) _ (by omega) ⟨j + 1, by omega, rfl, rfl, rfl⟩ ⟨rfl, rfl, rfl, ?_, rfl, rfl, rfl, rfl, rfl, trivial⟩
        rw [List.take_add_one, List.getElem?_eq_getElem hltj, List.any_append, h23]
        simp [List.lookup]
    · skip
      have hgej : b.length ≤ j := by simpa using h19
      refine T.exit ?_
      refine T.go (fun _ _ h => h) ?_
      refine T.rg ?_
      refine L.mv rfl rfl ?_
      refine L.not rfl rfl ?_
      refine L.nil ?_
      refine T.cond rfl (fun h30 => ?_) (fun h30 => ?_)
      · skip
        rw [List.take_of_length_le hgej] at h30
        refine T.rg ?_
        refine L.as rfl rfl ?_
        refine L.nil ?_
        refine T.ret ?_
        refine G.ret (res1 Try.results15 rfl) ?_
        refine ⟨rfl, congrArg aB ?_⟩
        symm
        unfold withinB
        rw [List.all_eq_false]
        exact ⟨a[k], List.getElem_mem hlt, fun hq => by have hq2 : (b.any fun y => y == a[k]) = true := hq; rw [hq2] at h30; cases h30⟩
      · skip
        rw [List.take_of_length_le hgej] at h30
        refine T.skip ?_
        refine T.go (fun _ _ h => h) ?_
        refine T.region ?_
        refine L.ar ((k + 1 : Nat) : Int) rfl rfl rfl (by omega) rfl ?_
        refine L.mv rfl rfl ?_
        refine L.last ?_
        refine G.round (a.length - (k + 1)) _ (by omega) ⟨k + 1, by omega, rfl, ?_, rfl, rfl⟩ (by repeat constructor)
        rw [List.take_add_one, List.getElem?_eq_getElem hlt, List.all_append, hx]
        simpa using h30
  · skip
    have hge : a.length ≤ k := by simpa using h13
    refine T.exit ?_
    refine T.go (fun _ _ h => h) ?_
    refine T.rg ?_
    refine L.as rfl rfl ?_
    refine L.nil ?_
    refine T.ret ?_
    refine G.ret (res1 Try.results15 rfl) ?_
    refine ⟨rfl, congrArg aB ?_⟩
    rw [List.take_of_length_le hge] at hx
    exact hx.symm

set_option maxHeartbeats 1000000 in
theorem f35 (l : List ByteArray) (n : Nat) (hn : n ≤ 1000000) : Fc Try.prog 35 [L_ 1 (strs l), N_ (n : Int)] [] (Just (aL 1 (strs (few l n)))) := by
  refine Fc.enter Try.func35 rfl Try.ntmps35 rfl fun X w => ?_
  refine T.rg ?_
  refine L.as rfl rfl ?_
  refine L.nil ?_
  refine T.rg ?_
  refine L.as rfl rfl ?_
  refine L.nil ?_
  refine T.of_seq ?_
  refine T.rg ?_
  refine L.as rfl rfl ?_
  refine L.nil ?_
  refine T.block ?_
  refine T.conv (nil_row 9 1) ?_
  refine T.loop (fun m σ Ω => ∃ (k : Nat) (v : Value), k ≤ l.length ∧ k ≤ n ∧ m = l.length - k ∧ σ = [(6, aN k), (5, aR v), (1, aN (n : Int)), (0, aL 1 (strs l))] ∧ Ω = [.row v 9 1 (strs ((l.take k).map (cutS 20)))]) (l.length) _ (⟨0, _, by omega, by omega, by omega, rfl, rfl⟩) (by repeat constructor) ?_
  rintro m σ Ω ⟨k, v, hk, hkn, rfl, rfl, rfl⟩
  have hlen := strs_len l
  refine T.of_seq ?_
  refine T.rg ?_
  refine L.mv rfl rfl ?_
  refine L.mv rfl rfl ?_
  refine L.lenL Try.underlying24 rfl rfl fun hl9 => ?_
  refine L.cmp rfl rfl rfl rfl ?_
  refine L.mv rfl rfl ?_
  refine L.caseB 11 rfl (fun h11 => ?_) (fun h11 => ?_)
  · skip
    have hlt : k < l.length := by simpa using h11
    refine L.on rfl rfl ?_
    refine L.mv rfl rfl ?_
    refine L.on rfl rfl ?_
    refine L.mv rfl rfl ?_
    refine L.on rfl rfl ?_
    refine L.cmp rfl rfl rfl rfl ?_
    refine L.pkT rfl rfl rfl ?_
    refine L.nil ?_
    refine T.cond rfl (fun h15 => ?_) (fun h15 => ?_)
    · skip
      have hltn : k < n := by simpa using h15
      refine T.skip ?_
      refine T.go (fun _ _ h => h) ?_
      refine T.of_seq ?_
      refine T.block ?_
      refine T.region ?_
      refine L.mv rfl rfl ?_
      refine L.mv rfl rfl ?_
      refine L.mv rfl rfl ?_
      refine L.ixL k _ Try.underlying24 s9 rfl rfl rfl (strs_get hlt) rfl ?_
      refine L.li o9 rfl rfl ?_
      refine L.call e8 rfl rfl (f8 _ 20 (by omega)) ?_
      rintro _ _ ⟨rfl, rfl⟩
      refine L.bsD rfl Try.underlying24 i9 rfl rfl rfl rfl rfl ?_
      refine L.app 0 Try.underlying24 i9 rfl rfl rfl rfl rfl (by simp; omega) (by simp; omega) rfl (fun _ => rfl) fun v25 => ?_
      refine L.as rfl rfl ?_
      refine L.last ?_
      refine T.go (fun _ _ h => h) ?_
      refine T.region ?_
      refine L.mv rfl rfl ?_
      refine L.ar ((k + 1 : Nat) : Int) rfl rfl rfl (by omega) rfl ?_
      refine L.as rfl rfl ?_
      refine L.last ?_
      refine G.round (l.length - (k + 1)) _ (by omega) ⟨k + 1, _, by omega, by omega, rfl, rfl, ?_⟩ (by repeat constructor)
      rw [take_map_snoc _ _ _ hlt, strs_snoc]
      all_goals rfl
    · skip
      have hgen : n ≤ k := by simpa using h15
      refine T.exit ?_
      refine T.go (fun _ _ h => h) ?_
      refine T.rg ?_
      refine L.mv rfl rfl ?_
      refine L.as rfl rfl ?_
      refine L.nil ?_
      refine T.ret ?_
      refine G.pub 4 0 rfl rfl rfl ?_
      exact G.ret (res1 Try.results35 rfl) ⟨rfl, by have : k = n := (by omega); subst this; rfl⟩
  · skip
    have hge : l.length ≤ k := by simpa using h11
    refine L.off rfl rfl rfl rfl ?_
    refine L.off rfl rfl rfl rfl ?_
    refine L.off rfl rfl rfl rfl ?_
    refine L.pkF rfl rfl rfl ?_
    refine L.nil ?_
    refine T.condF rfl ?_
    refine T.exit ?_
    refine T.go (fun _ _ h => h) ?_
    refine T.rg ?_
    refine L.mv rfl rfl ?_
    refine L.as rfl rfl ?_
    refine L.nil ?_
    refine T.ret ?_
    refine G.pub 4 0 rfl rfl rfl ?_
    exact G.ret (res1 Try.results35 rfl) ⟨rfl, by unfold few; rw [List.take_of_length_le hge, List.take_of_length_le (by omega)]⟩

set_option maxHeartbeats 1000000 in
theorem f36 (l : List (ByteArray × Int)) (n : Nat) (hn : n ≤ 1000000) : Fc Try.prog 36 [L_ 2 (prs l), N_ (n : Int)] [] (Just (aL 2 (prs (fewP l n)))) := by
  refine Fc.enter Try.func36 rfl Try.ntmps36 rfl fun X w => ?_
  refine T.rg ?_
  refine L.as rfl rfl ?_
  refine L.nil ?_
  refine T.rg ?_
  refine L.as rfl rfl ?_
  refine L.nil ?_
  refine T.of_seq ?_
  refine T.rg ?_
  refine L.as rfl rfl ?_
  refine L.nil ?_
  refine T.block ?_
  refine T.conv (nil_row 95 2) ?_
  refine T.loop (fun m σ Ω => ∃ (k : Nat) (v : Value), k ≤ l.length ∧ k ≤ n ∧ m = l.length - k ∧ σ = [(6, aN k), (5, aR v), (1, aN (n : Int)), (0, aL 2 (prs l))] ∧ Ω = [.row v 95 2 (prs ((l.take k).map fun p => (cutS 20 p.1, p.2)))]) (l.length) _ (⟨0, _, by omega, by omega, by omega, rfl, rfl⟩) (by repeat constructor) ?_
  rintro m σ Ω ⟨k, v, hk, hkn, rfl, rfl, rfl⟩
  have hlen := prs_len l
  refine T.of_seq ?_
  refine T.rg ?_
  refine L.mv rfl rfl ?_
  refine L.mv rfl rfl ?_
  refine L.lenL Try.underlying35 rfl rfl fun hl9 => ?_
  refine L.cmp rfl rfl rfl rfl ?_
  refine L.mv rfl rfl ?_
  refine L.caseB 11 rfl (fun h11 => ?_) (fun h11 => ?_)
  · skip
    have hlt : k < l.length := by simpa using h11
    refine L.on rfl rfl ?_
    refine L.mv rfl rfl ?_
    refine L.on rfl rfl ?_
    refine L.mv rfl rfl ?_
    refine L.on rfl rfl ?_
    refine L.cmp rfl rfl rfl rfl ?_
    refine L.pkT rfl rfl rfl ?_
    refine L.nil ?_
    refine T.cond rfl (fun h15 => ?_) (fun h15 => ?_)
    · skip
      have hltn : k < n := by simpa using h15
      refine T.skip ?_
      refine T.go (fun _ _ h => h) ?_
      refine T.of_seq ?_
      refine T.block ?_
      refine T.drawD 14 [(0, aL 2 (prs l)), (1, aN (n : Int)), (6, aN k), (5, aR v)] [aR v, aL 2 (prs l), aN k, .v (.c (.ip [D.s l[k].1, D.i .i64 l[k].2])), .v (.c (.ip [D.s l[k].1, D.i .i64 l[k].2])), aS l[k].1, aS (cutS 20 l[k].1), aL 2 (prs l), aN k, .v (.c (.ip [D.s l[k].1, D.i .i64 l[k].2])), .v (.c (.ip [D.i .i64 l[k].2])), aN l[k].2, .v (.g [.d (.s (cutS 20 l[k].1)), .d (.i .i64 l[k].2)]), aL 2 [[D.s (cutS 20 l[k].1), D.i .i64 l[k].2]]] hmixed rfl rfl rfl rfl (by repeat constructor) ⟨?_, ?_, ?_, ?_, ?_, ?_, ?_, ?_, ?_, ?_, ?_, ?_, ?_, ?_, trivial⟩ ?_
      · intro σ' Ωf hsb hA
        refine L.mv (hsb.get rfl) rfl ?_
        exact L.last (G.finD rfl)
      · intro σ' Ωf hsb hA
        refine L.mv (hsb.get rfl) rfl ?_
        exact L.last (G.finD rfl)
      · intro σ' Ωf hsb hA
        refine L.mv (hsb.get rfl) rfl ?_
        exact L.last (G.finD rfl)
      · intro σ' Ωf hsb hA
        refine L.ixL k _ Try.underlying35 s95 (hA 1 rfl) (hA 2 rfl) rfl (prs_get hlt) rfl ?_
        exact L.last (G.finD rfl)
      · intro σ' Ωf hsb hA
        refine L.fi Try.underlying95 rfl s9 (hA 3 rfl) rfl ?_
        exact L.last (G.finD rfl)
      · intro σ' Ωf hsb hA
        refine L.li o9 (hA 4 rfl) rfl ?_
        exact L.last (G.finD rfl)
      · intro σ' Ωf hsb hA
        refine L.call e8 (evs2 (hA 5 rfl) rfl) rfl (f8 _ 20 (by omega)) ?_
        rintro _ _ ⟨rfl, rfl⟩
        exact L.last (G.finD rfl)
      · intro σ' Ωf hsb hA
        refine L.mv (hsb.get rfl) rfl ?_
        exact L.last (G.finD rfl)
      · intro σ' Ωf hsb hA
        refine L.mv (hsb.get rfl) rfl ?_
        exact L.last (G.finD rfl)
      · intro σ' Ωf hsb hA
        refine L.ixL k _ Try.underlying35 s95 (hA 7 rfl) (hA 8 rfl) rfl (prs_get hlt) rfl ?_
        exact L.last (G.finD rfl)
      · intro σ' Ωf hsb hA
        refine L.fi Try.underlying95 rfl s3 (hA 9 rfl) rfl ?_
        exact L.last (G.finD rfl)
      · intro σ' Ωf hsb hA
        refine L.li o3 (hA 10 rfl) rfl ?_
        exact L.last (G.finD rfl)
      · intro σ' Ωf hsb hA
        refine L.bld p95 z95 rfl rfl (evp2 (hA 6 rfl) (hA 11 rfl)) rfl rfl ?_
        exact L.last (G.finD rfl)
      · intro σ' Ωf hsb hA
        refine L.bsD rfl Try.underlying35 i95 rfl rfl (evp1 (hA 12 rfl)) rfl rfl ?_
        exact L.last (G.finD rfl)
      refine L.app 0 Try.underlying35 i95 rfl rfl rfl rfl rfl (by simp; omega) (by simp; omega) rfl (fun _ => rfl) fun v32 => ?_
      refine L.as rfl rfl ?_
      refine L.last ?_
      refine T.go (fun _ _ h => h) ?_
      refine T.region ?_
      refine L.mv rfl rfl ?_
      refine L.ar ((k + 1 : Nat) : Int) rfl rfl rfl (by omega) rfl ?_
      refine L.as rfl rfl ?_
      refine L.last ?_
      refine G.round (l.length - (k + 1)) _ (by omega) ⟨k + 1, _, by omega, by omega, rfl, rfl, ?_⟩ (by repeat constructor)
      rw [take_map_snoc _ _ _ hlt, prs_snoc]
      all_goals rfl
    · skip
      have hgen : n ≤ k := by simpa using h15
      refine T.exit ?_
      refine T.go (fun _ _ h => h) ?_
      refine T.rg ?_
      refine L.mv rfl rfl ?_
      refine L.as rfl rfl ?_
      refine L.nil ?_
      refine T.ret ?_
      refine G.pub 4 0 rfl rfl rfl ?_
      exact G.ret (res1 Try.results36 rfl) ⟨rfl, by have : k = n := (by omega); subst this; rfl⟩
  · skip
    have hge : l.length ≤ k := by simpa using h11
    refine L.off rfl rfl rfl rfl ?_
    refine L.off rfl rfl rfl rfl ?_
    refine L.off rfl rfl rfl rfl ?_
    refine L.pkF rfl rfl rfl ?_
    refine L.nil ?_
    refine T.condF rfl ?_
    refine T.exit ?_
    refine T.go (fun _ _ h => h) ?_
    refine T.rg ?_
    refine L.mv rfl rfl ?_
    refine L.as rfl rfl ?_
    refine L.nil ?_
    refine T.ret ?_
    refine G.pub 4 0 rfl rfl rfl ?_
    exact G.ret (res1 Try.results36 rfl) ⟨rfl, by unfold fewP; rw [List.take_of_length_le hge, List.take_of_length_le (by omega)]⟩

set_option maxHeartbeats 1000000 in
theorem f18 (l : List (ByteArray × Int)) (hl : l.length ≤ 1000000) : Fc Try.prog 18 [L_ 2 (prs l)] [] (Just (aL 2 (prs l))) := by
  refine Fc.enter Try.func18 rfl Try.ntmps18 rfl fun X w => ?_
  refine T.rg ?_
  refine L.as rfl rfl ?_
  refine L.nil ?_
  refine T.rg ?_
  refine L.as rfl rfl ?_
  refine L.nil ?_
  refine T.of_seq ?_
  refine T.rg ?_
  refine L.mv rfl rfl ?_
  refine L.lenL Try.underlying35 rfl rfl fun hl7 => ?_
  refine L.mv rfl rfl ?_
  refine L.nil ?_
  refine T.block ?_
  refine T.conv (nil_row 94 2) ?_
  refine T.loop (fun m σ Ω => ∃ (k : Nat) (v : Value), k ≤ l.length ∧ m = l.length - k ∧ σ = [(8, aN k), (7, aN (prs l).length), (6, aL 2 (prs l)), (3, aR v)] ∧ Ω = [.row v 94 2 (prs (l.take k))]) (l.length) _ (⟨0, _, by omega, by omega, rfl, rfl⟩) (by repeat constructor) ?_
  rintro m σ Ω ⟨k, v, hk, rfl, rfl, rfl⟩
  have hlen := prs_len l
  refine T.rg ?_
  refine L.cmp rfl rfl rfl rfl ?_
  refine L.nil ?_
  refine T.of_seq ?_
  refine T.cond rfl (fun h9 => ?_) (fun h9 => ?_)
  · skip
    have hlt : k < l.length := by simpa using h9
    refine T.skip ?_
    refine T.go (fun _ _ h => h) ?_
    refine T.of_seq ?_
    refine T.block ?_
    refine T.rg ?_
    refine L.ixL k _ Try.underlying35 s95 rfl rfl rfl (prs_get hlt) rfl ?_
    refine L.lig a95 s95 rfl rfl rfl rfl ?_
    refine L.alloc z95 rfl rfl fun b5 => ?_
    refine L.stog 0 s95 rfl rfl rfl rfl rfl rfl ?_
    refine L.nil ?_
    refine T.region ?_
    refine L.mv rfl rfl ?_
    refine L.ldg 0 a95 s95 rfl rfl rfl rfl rfl ?_
    refine L.bsD rfl Try.underlying27 i94 rfl rfl rfl rfl rfl ?_
    refine L.app 1 Try.underlying27 i94 rfl rfl rfl rfl rfl (by simp; omega) (by simp; omega) rfl (fun _ => rfl) fun v15 => ?_
    refine L.as rfl rfl ?_
    refine L.last ?_
    refine T.go (fun _ _ h => h) ?_
    refine T.region ?_
    refine L.ar ((k + 1 : Nat) : Int) rfl rfl rfl (by omega) rfl ?_
    refine L.mv rfl rfl ?_
    refine L.last ?_
    refine G.conv (drop_at (i := 0) rfl rfl) ?_
    refine G.round (l.length - (k + 1)) _ (by omega) ⟨k + 1, _, by omega, rfl, rfl, ?_⟩ (by repeat constructor)
    rw [List.take_add_one, List.getElem?_eq_getElem hlt]
    exact (congrArg (fun z => [Ob.row _ 94 2 z]) (prs_snoc _ _)).symm
  · skip
    have hge : l.length ≤ k := by simpa using h9
    refine T.exit ?_
    refine T.go (fun _ _ h => h) ?_
    refine T.rg ?_
    refine L.mv rfl rfl ?_
    refine L.as rfl rfl ?_
    refine L.nil ?_
    refine T.ret ?_
    refine G.pub 2 0 rfl rfl rfl ?_
    exact G.ret (res1 Try.results18 rfl) ⟨rfl, by rw [List.take_of_length_le hge]⟩
end Go.Proofs.Ytlibfaghiogekaa
