/- Texts that are built up. Printed by gen.py. -/
import Derived.Test.YtlibfaghiogekaaS19
import Derived.Test.YtlibfaghiogekaaQs
import Derived.Test.YtlibfaghiogekaaDj
namespace Go.Proofs.Ytlibfaghiogekaa
open Go Go.Q
theorem u96 : Try.prog.underlying 96 = some (.pointer (Try.prog.pointee 96)) := by kernel_rfl
theorem ne63 : isNoEsc Try.prog 63 := ⟨_, Try.func63, by kernel_rfl, by kernel_rfl, by kernel_rfl, by kernel_rfl⟩
theorem lies99 : liesAt Try.prog Try.prog.depth 99 (2 / Try.prog.cellsOf 99) 0 99 1 = true := by kernel_rfl
theorem blt99 : ((Try.prog.info? 99).map fun j => Nat.blt 0 j.size) = some true := by kernel_rfl
theorem some99 : (Try.prog.info? 99).isSome = true := by kernel_rfl
theorem c5 : Try.prog.cellsOf 5 = 1 := by kernel_rfl
/-- A builder that holds a text: its row, its block. -/
abbrev bld (b : Nat) (s : ByteArray) (q : CV) (v : Value) : List Ob := [.row v 5 1 (bys s), .blk b 99 [q, .r v]]
abbrev unB (b : Nat) (q : CV) : Prop := q = .r (.pointer none) ∨ q = .p b 0
set_option maxHeartbeats 400000 in
theorem f45n (b : Nat) (v : Value) : Fc Try.prog 45 [P_ b 0] [.blk b 99 [.r (.pointer none), .r v]] (fun x Ω => x = .t [] ∧ Ω = [.blk b 99 [.p b 0, .r v]]) := by
  refine Fc.enter Try.func45 rfl Try.ntmps45 rfl fun X w => ?_
  refine T.rg ?_
  refine L.mv rfl rfl ?_
  refine L.nilck rfl rfl ?_
  refine L.fa Try.underlying99 rfl s96 rfl rfl ?_
  refine L.ld 0 o96 rfl rfl rfl rfl ?_
  refine L.eqPN u96 rfl rfl ?_
  refine L.nil ?_
  refine T.condT rfl ?_
  refine T.region ?_
  refine L.mv rfl rfl ?_
  refine L.mv rfl rfl ?_
  refine L.toU 0 Try.underlying96 Try.underlying132 blt99 rfl rfl rfl rfl ?_
  refine L.nesc ne63 rfl rfl ?_
  refine L.frU 0 Try.underlying132 Try.underlying96 some99 rfl rfl rfl lies99 rfl ?_
  refine L.nilck rfl rfl ?_
  refine L.fa Try.underlying99 rfl s96 rfl rfl ?_
  refine L.sto 0 s96 rfl rfl rfl rfl rfl ?_
  refine L.last ?_
  exact G.end (res0 Try.results45) ⟨rfl, rfl⟩

set_option maxHeartbeats 400000 in
theorem f45p (b : Nat) (v : Value) : Fc Try.prog 45 [P_ b 0] [.blk b 99 [.p b 0, .r v]] (fun x Ω => x = .t [] ∧ Ω = [.blk b 99 [.p b 0, .r v]]) := by
  refine Fc.enter Try.func45 rfl Try.ntmps45 rfl fun X w => ?_
  refine T.rg ?_
  refine L.mv rfl rfl ?_
  refine L.nilck rfl rfl ?_
  refine L.fa Try.underlying99 rfl s96 rfl rfl ?_
  refine L.ld 0 o96 rfl rfl rfl rfl ?_
  refine L.eqPP u96 rfl rfl ?_
  refine L.nil ?_
  refine T.condF rfl ?_
  refine T.rg ?_
  refine L.mv rfl rfl ?_
  refine L.nilck rfl rfl ?_
  refine L.fa Try.underlying99 rfl s96 rfl rfl ?_
  refine L.ld 0 o96 rfl rfl rfl rfl ?_
  refine L.mv rfl rfl ?_
  refine L.nePS Try.underlying96 some99 rfl rfl rfl ?_
  refine L.nil ?_
  refine T.condF rfl ?_
  refine T.skip ?_
  exact G.end (res0 Try.results45) ⟨rfl, rfl⟩

theorem f45 (b : Nat) (q : CV) (hq : unB b q) (v : Value) : Fc Try.prog 45 [P_ b 0] [.blk b 99 [q, .r v]] (fun x Ω => x = .t [] ∧ Ω = [.blk b 99 [.p b 0, .r v]]) := by
  rcases hq with rfl | rfl
  · exact f45n b v
  · exact f45p b v

set_option maxHeartbeats 400000 in
theorem f29 (b : Nat) (r s : ByteArray) (q : CV) (hq : unB b q) (v : Value) (hb : r.size + s.size ≤ 140737488355328) : Fc Try.prog 29 [P_ b 0, S_ s] (bld b r q v) (fun x Ω => x = .t [N_ (s.size : Int), R_ .nilIface] ∧ ∃ v', Ω = bld b (r ++ s) (.p b 0) v') := by
  refine Fc.enter Try.func29 rfl Try.ntmps29 rfl fun X w => ?_
  refine T.rg ?_
  refine L.as rfl rfl ?_
  refine L.as rfl rfl ?_
  refine L.nil ?_
  refine T.rg ?_
  refine L.mv rfl rfl ?_
  refine L.callO [_] [_] [] rfl e45 rfl rfl (f45 b q hq v) ?_
  rintro _ _ ⟨rfl, rfl⟩
  refine L.nil ?_
  refine T.rg ?_
  refine L.mv rfl rfl ?_
  refine L.mv rfl rfl ?_
  refine L.nilck rfl rfl ?_
  refine L.fa Try.underlying99 rfl s97 rfl rfl ?_
  refine L.ld 1 o97 rfl rfl rfl rfl ?_
  refine L.mv rfl rfl ?_
  refine L.apS 0 Try.underlying97 Try.underlying9 i5 rfl rfl rfl hb rfl (fun _ => rfl) fun v14 => ?_
  refine L.nilck rfl rfl ?_
  refine L.fa Try.underlying99 rfl s97 rfl rfl ?_
  refine L.sto 1 s97 rfl rfl rfl rfl rfl ?_
  refine L.nil ?_
  refine T.rg ?_
  refine L.mv rfl rfl ?_
  refine L.lenS Try.underlying9 rfl rfl ?_
  refine L.as rfl rfl ?_
  refine L.as rfl rfl ?_
  refine L.nil ?_
  refine T.ret ?_
  exact G.ret (res2 Try.results29 rfl rfl) ⟨rfl, v14, rfl⟩

set_option maxHeartbeats 400000 in
theorem f46 (b : Nat) (r : ByteArray) (q : CV) (v : Value) : Fc Try.prog 46 [P_ b 0] (bld b r q v) (fun x Ω => x = aN (r.size : Int) ∧ Ω = bld b r q v) := by
  refine Fc.enter Try.func46 rfl Try.ntmps46 rfl fun X w => ?_
  refine T.rg ?_
  refine L.as rfl rfl ?_
  refine L.nil ?_
  refine T.rg ?_
  refine L.mv rfl rfl ?_
  refine L.nilck rfl rfl ?_
  refine L.fa Try.underlying99 rfl s97 rfl rfl ?_
  refine L.ld 1 o97 rfl rfl rfl rfl ?_
  refine L.lenR (i := 0) Try.underlying97 rfl rfl rfl fun hl7 => ?_
  rw [bys_len]
  refine L.as rfl rfl ?_
  refine L.nil ?_
  refine T.ret ?_
  exact G.ret (res1 Try.results46 rfl) ⟨rfl, rfl⟩

set_option maxHeartbeats 400000 in
theorem f31 (b : Nat) (r : ByteArray) (q : CV) (v : Value) : Fc Try.prog 31 [P_ b 0] (bld b r q v) (fun x Ω => x = aS r ∧ Ω = [.blk b 99 [q, .r v]]) := by
  refine Fc.enter Try.func31 rfl Try.ntmps31 rfl fun X w => ?_
  refine T.rg ?_
  refine L.as rfl rfl ?_
  refine L.nil ?_
  refine T.of_seq ?_
  refine T.drawC 10 [(0, aP b 0)] [.row v 5 1 (bys r), .blk b 99 [q, .r v]] (fun _ => []) [] (fun n x _ post => match n with
    | 0 => x = aP b 0 ∧ post = []
    | 1 => x = aP b 0 ∧ post = []
    | 2 => x = aP b 1 ∧ post = []
    | 3 => x = aR v ∧ post = []
    | 4 => ∃ p, x = aR (.pointer p) ∧ (∀ g c, v = slV g 0 r.size c → 0 < r.size → p = some ⟨g, 0, none⟩) ∧ post = []
    | 5 => x = aP b 0 ∧ post = []
    | 6 => x = aP b 0 ∧ post = []
    | 7 => x = aP b 1 ∧ post = []
    | 8 => x = aR v ∧ post = []
    | 9 => x = aN (r.size : Int) ∧ post = []
    | _ => False) hmixed rfl rfl rfl (by repeat constructor) (List.Perm.refl _) rfl ⟨?_, ?_, ?_, ?_, ?_, ?_, ?_, ?_, ?_, ?_, trivial⟩ ?_
  · intro X posts σ' Ωf hsb hA
    refine L.mv (hsb.get rfl) rfl ?_
    exact L.last (G.fin [] ⟨rfl, rfl⟩ rfl)
  · intro X posts σ' Ωf hsb hA
    have hx0 := (hA 0 rfl).2.1
    have l3 : σ'.lookup 3 = some (aP b 0) := (hA 0 rfl).1.trans (congrArg some hx0)
    refine L.nilck l3 rfl ?_
    exact L.last (G.fin [] ⟨rfl, rfl⟩ rfl)
  · intro X posts σ' Ωf hsb hA
    have hx1 := (hA 1 rfl).2.1
    have l4 : σ'.lookup 4 = some (aP b 0) := (hA 1 rfl).1.trans (congrArg some hx1)
    refine L.fa Try.underlying99 rfl s97 l4 rfl ?_
    exact L.last (G.fin [] ⟨rfl, rfl⟩ rfl)
  · intro X posts σ' Ωf hsb hA
    have hx2 := (hA 2 rfl).2.1
    have l5 : σ'.lookup 5 = some (aP b 1) := (hA 2 rfl).1.trans (congrArg some hx2)
    refine L.ld 1 o97 l5 rfl rfl rfl ?_
    exact L.last (G.fin [] ⟨rfl, rfl⟩ rfl)
  · intro X posts σ' Ωf hsb hA
    have hx3 := (hA 3 rfl).2.1
    have l6 : σ'.lookup 6 = some (aR v) := (hA 3 rfl).1.trans (congrArg some hx3)
    refine L.usd 0 Try.underlying121 l6 rfl rfl fun p hp => ?_
    exact L.last (G.fin [] ⟨p, rfl, hp, rfl⟩ rfl)
  · intro X posts σ' Ωf hsb hA
    refine L.mv (hsb.get rfl) rfl ?_
    exact L.last (G.fin [] ⟨rfl, rfl⟩ rfl)
  · intro X posts σ' Ωf hsb hA
    have hx5 := (hA 5 rfl).2.1
    have l8 : σ'.lookup 8 = some (aP b 0) := (hA 5 rfl).1.trans (congrArg some hx5)
    refine L.nilck l8 rfl ?_
    exact L.last (G.fin [] ⟨rfl, rfl⟩ rfl)
  · intro X posts σ' Ωf hsb hA
    have hx6 := (hA 6 rfl).2.1
    have l9 : σ'.lookup 9 = some (aP b 0) := (hA 6 rfl).1.trans (congrArg some hx6)
    refine L.fa Try.underlying99 rfl s97 l9 rfl ?_
    exact L.last (G.fin [] ⟨rfl, rfl⟩ rfl)
  · intro X posts σ' Ωf hsb hA
    have hx7 := (hA 7 rfl).2.1
    have l10 : σ'.lookup 10 = some (aP b 1) := (hA 7 rfl).1.trans (congrArg some hx7)
    refine L.ld 1 o97 l10 rfl rfl rfl ?_
    exact L.last (G.fin [] ⟨rfl, rfl⟩ rfl)
  · intro X posts σ' Ωf hsb hA
    have hx8 := (hA 8 rfl).2.1
    have l11 : σ'.lookup 11 = some (aR v) := (hA 8 rfl).1.trans (congrArg some hx8)
    refine L.lenR (i := 0) Try.underlying97 l11 rfl rfl fun hl12 => ?_
    rw [bys_len]
    exact L.last (G.fin [] ⟨rfl, rfl⟩ rfl)
  intro X posts hR
  obtain ⟨hx0, hp0⟩ : X 0 = aP b 0 ∧ posts 0 = [] := hR 0 rfl
  obtain ⟨hx1, hp1⟩ : X 1 = aP b 0 ∧ posts 1 = [] := hR 1 rfl
  obtain ⟨hx2, hp2⟩ : X 2 = aP b 1 ∧ posts 2 = [] := hR 2 rfl
  obtain ⟨hx3, hp3⟩ : X 3 = aR v ∧ posts 3 = [] := hR 3 rfl
  obtain ⟨p, hx4, hv4, hp4⟩ : ∃ p, X 4 = aR (.pointer p) ∧ (∀ g c, v = slV g 0 r.size c → 0 < r.size → p = some ⟨g, 0, none⟩) ∧ posts 4 = [] := hR 4 rfl
  obtain ⟨hx5, hp5⟩ : X 5 = aP b 0 ∧ posts 5 = [] := hR 5 rfl
  obtain ⟨hx6, hp6⟩ : X 6 = aP b 0 ∧ posts 6 = [] := hR 6 rfl
  obtain ⟨hx7, hp7⟩ : X 7 = aP b 1 ∧ posts 7 = [] := hR 7 rfl
  obtain ⟨hx8, hp8⟩ : X 8 = aR v ∧ posts 8 = [] := hR 8 rfl
  obtain ⟨hx9, hp9⟩ : X 9 = aN (r.size : Int) ∧ posts 9 = [] := hR 9 rfl
  have hpp : (List.range 10).flatMap (leftC 10 (fun i => ([] : List (Option Nat)).getD i none) posts) = [] := by
    show posts 0 ++ (posts 1 ++ (posts 2 ++ (posts 3 ++ (posts 4 ++ (posts 5 ++ (posts 6 ++ (posts 7 ++ (posts 8 ++ (posts 9 ++ []))))))))) = _
    simp only [hp0, hp1, hp2, hp3, hp4, hp5, hp6, hp7, hp8, hp9, List.nil_append, List.append_nil]
  rw [hpp]
  refine L.sub (σ' := [(7, aR (.pointer p)), (12, aN (r.size : Int)), (0, aP b 0)]) ⟨congrArg some hx4, congrArg some hx9, rfl, trivial⟩ ?_
  refine L.ust 0 Try.underlying121 c5 rfl rfl rfl rfl hv4 rfl ?_
  refine L.as rfl rfl ?_
  refine L.last ?_
  refine T.go (fun _ _ h => h) ?_
  refine T.ret ?_
  exact G.ret (res1 Try.results31 rfl) ⟨rfl, rfl⟩

set_option maxHeartbeats 4000000 in
theorem f30 (p : SPart) (hsz : p.len ≤ 1000000) : Fc Try.prog 30 [.g p.cs] [] (Just (aS (partT p))) := by
  have hlen := hsz
  unfold SPart.len at hlen
  refine Fc.enter Try.func30 rfl Try.ntmps30 rfl fun X w => ?_
  refine T.rg ?_
  refine L.box rfl rfl fun b1 => ?_
  refine L.as rfl rfl ?_
  refine L.nil ?_
  refine T.rg ?_
  refine L.alloc z99 rfl rfl fun b3 => ?_
  refine L.nil ?_
  refine T.rg ?_
  refine L.conv (nil_row 5 1) ?_
  refine L.fa Try.underlying77 rfl s9 rfl rfl ?_
  refine L.ld 2 o9 rfl rfl rfl rfl ?_
  refine L.callO [] [_, _] [_] rfl e29 rfl rfl (f29 b3 ByteArray.empty p.tag _ (.inl rfl) _ (by show 0 + p.tag.size ≤ _; omega)) ?_
  rintro _ _ ⟨rfl, v_, rfl⟩
  rw [ByteArray.empty_append]
  refine L.nil ?_
  refine T.of_seq ?_
  refine T.rg ?_
  refine L.fa Try.underlying77 rfl s24 rfl rfl ?_
  refine L.ld 2 o24 rfl rfl rfl rfl ?_
  refine L.lenL Try.underlying24 rfl rfl fun hl13 => ?_
  refine L.mv rfl rfl ?_
  refine L.nil ?_
  refine T.block ?_
  refine T.loop (fun m σ Ω => ∃ (k : Nat) (v : Value), k ≤ p.classes.length ∧ m = p.classes.length - k ∧ σ = [(14, aN k), (13, aN (strs p.classes).length), (12, aL 1 (strs p.classes)), (3, aP b3 0), (1, aP b1 0)] ∧ Ω = [.row v 5 1 (bys (clsT p.tag (p.classes.take k))), .blk b3 99 [.p b3 0, .r v], .blk b1 77 p.cs]) (p.classes.length) _ (⟨0, v_, Nat.zero_le _, rfl, rfl, rfl⟩) (by repeat constructor) ?_
  rintro m σ Ω ⟨k, v, hk, rfl, rfl, rfl⟩
  have hsl := strs_len p.classes
  refine T.rg ?_
  refine L.cmp rfl rfl rfl rfl ?_
  refine L.nil ?_
  refine T.of_seq ?_
  refine T.cond rfl (fun h15 => ?_) (fun h15 => ?_)
  · skip
    have hlt : k < p.classes.length := by have := of_decide_eq_true h15; omega
    have hlt2 := lenC_take p.classes k hlt
    have hcs := clsT_size (p.classes.take k) p.tag
    have hd1 : dotB.size = 1 := rfl
    refine T.skip ?_
    refine T.go (fun _ _ h => h) ?_
    refine T.of_seq ?_
    refine T.block ?_
    refine T.rg ?_
    refine L.ixL k _ Try.underlying24 s9 rfl rfl rfl (strs_get hlt) rfl ?_
    refine L.li o9 rfl rfl ?_
    refine L.as rfl rfl ?_
    refine L.nil ?_
    refine T.region ?_
    refine L.mv rfl rfl ?_
    refine L.addS rfl rfl (by show dotB.size + p.classes[k].size ≤ _; omega) rfl ?_
    refine L.callO [] [_, _] [_] rfl e29 rfl rfl (f29 b3 (clsT p.tag (p.classes.take k)) (dotB ++ p.classes[k]) _ (.inr rfl) v (by rw [ByteArray.size_append]; omega)) ?_
    rintro _ _ ⟨rfl, v_, rfl⟩
    refine L.last ?_
    refine T.go (fun _ _ h => h) ?_
    refine T.region ?_
    refine L.ar ((k + 1 : Nat) : Int) rfl rfl rfl (by omega) rfl ?_
    refine L.mv rfl rfl ?_
    refine L.last ?_
    refine G.round (p.classes.length - (k + 1)) _ (by omega) ⟨k + 1, v_, by omega, rfl, rfl, by rw [clsT_take _ hlt]; rfl⟩ (by repeat constructor)
  · skip
    have hge : p.classes.length ≤ k := by have := of_decide_eq_false h15; omega
    refine T.exit ?_
    refine T.go (fun _ _ h => h) ?_
    refine T.of_seq ?_
    refine T.rg ?_
    rw [List.take_of_length_le hge]
    clear hge hk
    have hcs := clsT_size p.classes p.tag
    refine L.fa Try.underlying77 rfl s75 rfl rfl ?_
    refine L.ld 2 o75 rfl rfl rfl rfl ?_
    refine L.lenL Try.underlying75 rfl rfl fun hl24 => ?_
    refine L.mv rfl rfl ?_
    refine L.nil ?_
    refine T.block ?_
    refine T.loop (fun m σ Ω => ∃ (k : Nat) (v : Value), k ≤ p.pairs.length ∧ m = p.pairs.length - k ∧ σ = [(25, aN k), (24, aN (qps p.pairs).length), (23, aL 3 (qps p.pairs)), (3, aP b3 0), (1, aP b1 0)] ∧ Ω = [.row v 5 1 (bys (prsT (clsT p.tag p.classes) (p.pairs.take k))), .blk b3 99 [.p b3 0, .r v], .blk b1 77 p.cs]) (p.pairs.length) _ (⟨0, v, Nat.zero_le _, rfl, rfl, rfl⟩) (by repeat constructor) ?_
    rintro m σ Ω ⟨k, v, hk, rfl, rfl, rfl⟩
    have hql := qps_len p.pairs
    refine T.rg ?_
    refine L.cmp rfl rfl rfl rfl ?_
    refine L.nil ?_
    refine T.of_seq ?_
    refine T.cond rfl (fun h26 => ?_) (fun h26 => ?_)
    · skip
      have hlt : k < p.pairs.length := by have := of_decide_eq_true h26; omega
      have hlt2 := lenP_take p.pairs k hlt
      have hps := prsT_size (p.pairs.take k) (clsT p.tag p.classes)
      have hd1 : lbB.size = 1 := rfl
      have hd2 : rbB.size = 1 := rfl
      have hd3 : eqB.size = 1 := rfl
      refine T.skip ?_
      refine T.go (fun _ _ h => h) ?_
      refine T.of_seq ?_
      refine T.block ?_
      refine T.rg ?_
      refine L.ixL k _ Try.underlying75 s112 rfl rfl rfl (qps_get hlt) rfl ?_
      refine L.lig a112 s112 rfl rfl rfl rfl ?_
      refine L.alloc z112 rfl rfl fun b7 => ?_
      refine L.stog 0 s112 rfl rfl rfl rfl rfl rfl ?_
      refine L.nil ?_
      refine T.rg ?_
      refine L.fa Try.underlying112 rfl s9 rfl rfl ?_
      refine L.ld 0 o9 rfl rfl rfl rfl ?_
      refine L.addS rfl rfl (by show lbB.size + p.pairs[k].1.size ≤ _; omega) rfl ?_
      refine L.callO [_] [_, _] [_] rfl e29 rfl rfl (f29 b3 (prsT (clsT p.tag p.classes) (p.pairs.take k)) (lbB ++ p.pairs[k].1) _ (.inr rfl) v (by rw [ByteArray.size_append]; omega)) ?_
      rintro _ _ ⟨rfl, v_, rfl⟩
      refine L.nil ?_
      refine T.cut (fun σ Ω => ∃ v2, σ = [(7, aP b7 0), (25, aN k), (24, aN (qps p.pairs).length), (23, aL 3 (qps p.pairs)), (3, aP b3 0), (1, aP b1 0)] ∧ Ω = [.blk b7 112 [.d (.s p.pairs[k].1), .d (.s p.pairs[k].2.1), .d (.b p.pairs[k].2.2)], .row v2 5 1 (bys (if p.pairs[k].2.2 = true then ((prsT (clsT p.tag p.classes) (p.pairs.take k)) ++ (lbB ++ p.pairs[k].1)) else ((prsT (clsT p.tag p.classes) (p.pairs.take k)) ++ (lbB ++ p.pairs[k].1)) ++ (eqB ++ p.pairs[k].2.1))), .blk b3 99 [.p b3 0, .r v2], .blk b1 77 p.cs]) ?_ ?_
      · rintro σ Ω ⟨v2, rfl, rfl⟩
        refine T.region ?_
        refine L.callO [_] [_, _] [_] rfl e29 rfl rfl (f29 b3 _ rbB _ (.inr rfl) v2 (by split <;> simp only [ByteArray.size_append] <;> omega)) ?_
        rintro _ _ ⟨rfl, v_, rfl⟩
        refine L.last ?_
        refine T.go (fun _ _ h => h) ?_
        refine T.region ?_
        refine L.ar ((k + 1 : Nat) : Int) rfl rfl rfl (by omega) rfl ?_
        refine L.mv rfl rfl ?_
        refine L.last ?_
        refine G.conv (drop_at (i := 0) rfl rfl) ?_
        refine G.round (p.pairs.length - (k + 1)) _ (by omega) ⟨k + 1, v_, by omega, rfl, rfl, by rw [prsT_take _ hlt]; unfold prT; split <;> rfl⟩ (by repeat constructor)
      · skip
        refine T.rg ?_
        refine L.fa Try.underlying112 rfl s4 rfl rfl ?_
        refine L.ld 0 o4 rfl rfl rfl rfl ?_
        refine L.not rfl rfl ?_
        refine L.nil ?_
        refine T.cond rfl (fun h35 => ?_) (fun h35 => ?_)
        · skip
          have hany : ¬ p.pairs[k].2.2 = true := by simpa using h35
          refine T.region ?_
          refine L.fa Try.underlying112 rfl s9 rfl rfl ?_
          refine L.ld 0 o9 rfl rfl rfl rfl ?_
          refine L.addS rfl rfl (by show eqB.size + p.pairs[k].2.1.size ≤ _; omega) rfl ?_
          refine L.callO [_] [_, _] [_] rfl e29 rfl rfl (f29 b3 ((prsT (clsT p.tag p.classes) (p.pairs.take k)) ++ (lbB ++ p.pairs[k].1)) (eqB ++ p.pairs[k].2.1) _ (.inr rfl) v_ (by simp only [ByteArray.size_append]; omega)) ?_
          rintro _ _ ⟨rfl, v_, rfl⟩
          refine L.last ?_
          exact G.cut [(7, aP b7 0), (25, aN k), (24, aN (qps p.pairs).length), (23, aL 3 (qps p.pairs)), (3, aP b3 0), (1, aP b1 0)] ⟨v_, rfl, by rw [if_neg hany]; rfl⟩ (by repeat constructor)
        · skip
          have hany : p.pairs[k].2.2 = true := by simpa using h35
          refine T.skip ?_
          exact G.cut [(7, aP b7 0), (25, aN k), (24, aN (qps p.pairs).length), (23, aL 3 (qps p.pairs)), (3, aP b3 0), (1, aP b1 0)] ⟨v_, rfl, by rw [if_pos hany]; rfl⟩ (by repeat constructor)
    · skip
      have hge : p.pairs.length ≤ k := by have := of_decide_eq_false h26; omega
      refine T.exit ?_
      refine T.go (fun _ _ h => h) ?_
      refine T.of_seq ?_
      refine T.rg ?_
      rw [List.take_of_length_le hge]
      refine L.callO [] [_, _] [_] rfl e46 rfl rfl (f46 b3 _ _ v) ?_
      rintro _ _ ⟨rfl, rfl⟩
      refine L.cmp rfl rfl rfl rfl ?_
      refine L.nil ?_
      refine T.cond rfl (fun h43 => ?_) (fun h43 => ?_)
      · skip
        have h0 : (prsT (clsT p.tag p.classes) p.pairs).size = 0 := by have := of_decide_eq_true h43; omega
        refine T.rg ?_
        refine L.as rfl rfl ?_
        refine L.nil ?_
        refine T.ret ?_
        refine G.conv (drop_at (i := 0) rfl rfl) ?_
        refine G.conv (drop_at (i := 0) rfl rfl) ?_
        refine G.conv (drop_at (i := 0) rfl rfl) ?_
        exact G.ret (res1 Try.results30 rfl) ⟨rfl, congrArg aS (by unfold partT; rw [if_pos h0])⟩
      · skip
        have h0 : ¬ (prsT (clsT p.tag p.classes) p.pairs).size = 0 := by have := of_decide_eq_false h43; omega
        refine T.skip ?_
        refine T.go (fun _ _ h => h) ?_
        refine T.rg ?_
        refine L.callO [] [_, _] [_] rfl e31 rfl rfl (f31 b3 _ _ v) ?_
        rintro _ _ ⟨rfl, rfl⟩
        refine L.as rfl rfl ?_
        refine L.nil ?_
        refine T.ret ?_
        refine G.conv (drop_at (i := 0) rfl rfl) ?_
        refine G.conv (drop_at (i := 0) rfl rfl) ?_
        exact G.ret (res1 Try.results30 rfl) ⟨rfl, congrArg aS (by unfold partT; rw [if_neg h0])⟩

theorem sel_ge {ps : List SPart} {k : Nat} (h : k < ps.length) : ps.getD k noP = ps[k] := by rw [List.getD_eq_getElem?_getD, List.getElem?_eq_getElem h]; rfl
theorem sepT_gt {s : ByteArray} {k : Nat} {p : SPart} (h : 0 < k) (hc : p.child = true) : sepT s k p = s ++ gtB := by unfold sepT; rw [if_neg (by omega), if_pos hc]
theorem sepT_sp {s : ByteArray} {k : Nat} {p : SPart} (h : 0 < k) (hc : p.child = false) : sepT s k p = s ++ spB := by unfold sepT; rw [if_neg (by omega), if_neg (by rw [hc]; decide)]
theorem sepT_0 {s : ByteArray} {k : Nat} {p : SPart} (h : k = 0) : sepT s k p = s := by unfold sepT; rw [if_pos h]

set_option maxHeartbeats 4000000 in
theorem f16 (ps : List SPart) (hps : ps.length ≤ 500) (hM : ∀ p ∈ ps, p.len ≤ 1000) : Fc Try.prog 16 [L_ 4 (sel ps)] [] (Just (aS (selT ps ps.length))) := by
  refine Fc.enter Try.func16 rfl Try.ntmps16 rfl fun X w => ?_
  refine T.rg ?_
  refine L.as rfl rfl ?_
  refine L.nil ?_
  refine T.rg ?_
  refine L.alloc z99 rfl rfl fun b3 => ?_
  refine L.nil ?_
  refine T.of_seq ?_
  refine T.rg ?_
  refine L.mv rfl rfl ?_
  refine L.lenL Try.underlying44 rfl rfl fun hl7 => ?_
  refine L.mv rfl rfl ?_
  refine L.nil ?_
  refine T.block ?_
  refine T.conv (nil_row 5 1) ?_
  refine T.loop (fun m σ Ω => ∃ (k : Nat) (q : CV) (v : Value), k ≤ ps.length ∧ m = ps.length - k ∧ unB b3 q ∧ σ = [(8, aN k), (7, aN (sel ps).length), (6, aL 4 (sel ps)), (3, aP b3 0)] ∧ Ω = [.row v 5 1 (bys (selT ps k)), .blk b3 99 [q, .r v]]) (ps.length) _ (⟨0, .r (.pointer none), nilV, Nat.zero_le _, rfl, .inl rfl, rfl, rfl⟩) (by repeat constructor) ?_
  rintro m σ Ω ⟨k, q, v, hk, rfl, hq, rfl, rfl⟩
  have hsl := sel_len ps
  have hss := selT_size ps 1000 hM k hk
  refine T.rg ?_
  refine L.cmp rfl rfl rfl rfl ?_
  refine L.nil ?_
  refine T.of_seq ?_
  refine T.cond rfl (fun h9 => ?_) (fun h9 => ?_)
  · skip
    have hlt : k < ps.length := by have := of_decide_eq_true h9; omega
    have hpm := hM ps[k] (List.getElem_mem hlt)
    have hpt := partT_size ps[k]
    have hst := sepT_size (selT ps k) k ps[k]
    refine T.skip ?_
    refine T.go (fun _ _ h => h) ?_
    refine T.of_seq ?_
    refine T.block ?_
    refine T.rg ?_
    refine L.mv rfl rfl ?_
    refine L.ixL k _ Try.underlying44 s77 rfl rfl rfl (sel_get' hlt) rfl ?_
    refine L.lig a77 s77 rfl rfl rfl rfl ?_
    refine L.alloc z77 rfl rfl fun b5 => ?_
    refine L.as rfl rfl ?_
    refine L.stog 0 s77 rfl rfl rfl rfl rfl rfl ?_
    refine L.nil ?_
    refine T.cut (fun σ Ω => ∃ q2 v2, unB b3 q2 ∧ σ = [(5, aP b5 0), (8, aN k), (7, aN (sel ps).length), (6, aL 4 (sel ps)), (3, aP b3 0)] ∧ Ω = [.blk b5 77 [.d (.s ps[k].tag), .d (.l 1 (strs ps[k].classes)), .d (.l 3 (qps ps[k].pairs)), .d (.b ps[k].child)], .row v2 5 1 (bys (sepT (selT ps k) k ps[k])), .blk b3 99 [q2, .r v2]]) ?_ ?_
    · rintro σ Ω ⟨q2, v2, hq2, rfl, rfl⟩
      refine T.region ?_
      refine L.ldg 0 a77 s77 rfl rfl rfl rfl rfl ?_
      refine L.call e30 rfl rfl (f30 ps[k] (by omega)) ?_
      rintro _ _ ⟨rfl, rfl⟩
      refine L.callO [_] [_, _] [] rfl e29 rfl rfl (f29 b3 _ (partT ps[k]) q2 hq2 v2 (by omega)) ?_
      rintro _ _ ⟨rfl, v_, rfl⟩
      refine L.last ?_
      refine T.go (fun _ _ h => h) ?_
      refine T.region ?_
      refine L.ar ((k + 1 : Nat) : Int) rfl rfl rfl (by omega) rfl ?_
      refine L.mv rfl rfl ?_
      refine L.last ?_
      refine G.conv (drop_at (i := 0) rfl rfl) ?_
      refine G.round (ps.length - (k + 1)) _ (by omega) ⟨k + 1, .p b3 0, v_, by omega, rfl, .inr rfl, rfl, by rw [selT, sel_ge hlt]; rfl⟩ (by repeat constructor)
    · skip
      refine T.block ?_
      refine T.rg ?_
      refine L.mv rfl rfl ?_
      refine L.cmp rfl rfl rfl rfl ?_
      refine L.mv rfl rfl ?_
      refine L.caseB 16 rfl (fun h16 => ?_) (fun h16 => ?_)
      · skip
        have hpos : 0 < k := by have := of_decide_eq_true h16; omega
        refine L.on rfl rfl ?_
        refine L.fa Try.underlying77 rfl s4 rfl rfl ?_
        refine L.on rfl rfl ?_
        refine L.ld 0 o4 rfl rfl rfl rfl ?_
        refine L.pkT rfl rfl rfl ?_
        refine L.as rfl rfl ?_
        refine L.nil ?_
        refine T.cond rfl (fun h13 => ?_) (fun h13 => ?_)
        · skip
          have hch : ps[k].child = true := h13
          refine T.region ?_
          refine L.callO [_] [_, _] [] rfl e29 rfl rfl (f29 b3 (selT ps k) gtB q hq v (by have h1 : gtB.size = 3 := rfl; omega)) ?_
          rintro _ _ ⟨rfl, v_, rfl⟩
          refine L.last ?_
          exact G.cut [(5, aP b5 0), (8, aN k), (7, aN (sel ps).length), (6, aL 4 (sel ps)), (3, aP b3 0)] ⟨.p b3 0, v_, .inr rfl, rfl, by rw [sepT_gt hpos hch]; rfl⟩ (by repeat constructor)
        · skip
          have hch : ps[k].child = false := h13
          refine T.rg ?_
          refine L.mv rfl rfl ?_
          refine L.cmp rfl rfl rfl rfl ?_
          refine L.as rfl rfl ?_
          refine L.nil ?_
          refine T.cond rfl (fun h21 => ?_) (fun h21 => ?_)
          · skip
            refine T.region ?_
            refine L.callO [_] [_, _] [] rfl e29 rfl rfl (f29 b3 (selT ps k) spB q hq v (by have h1 : spB.size = 1 := rfl; omega)) ?_
            rintro _ _ ⟨rfl, v_, rfl⟩
            refine L.last ?_
            exact G.cut [(5, aP b5 0), (8, aN k), (7, aN (sel ps).length), (6, aL 4 (sel ps)), (3, aP b3 0)] ⟨.p b3 0, v_, .inr rfl, rfl, by rw [sepT_sp hpos hch]; rfl⟩ (by repeat constructor)
          · skip
            exfalso
            have := of_decide_eq_false h21
            omega
      · skip
        have h0 : k = 0 := by have := of_decide_eq_false h16; omega
        refine L.off rfl rfl rfl rfl ?_
        refine L.off rfl rfl rfl rfl ?_
        refine L.pkF rfl rfl rfl ?_
        refine L.as rfl rfl ?_
        refine L.nil ?_
        refine T.condF rfl ?_
        refine T.rg ?_
        refine L.mv rfl rfl ?_
        refine L.cmp rfl rfl rfl rfl ?_
        refine L.as rfl rfl ?_
        refine L.nil ?_
        refine T.cond rfl (fun h21 => ?_) (fun h21 => ?_)
        · skip
          exfalso
          have := of_decide_eq_true h21
          omega
        · skip
          refine T.skip ?_
          exact G.cut [(5, aP b5 0), (8, aN k), (7, aN (sel ps).length), (6, aL 4 (sel ps)), (3, aP b3 0)] ⟨q, v, hq, rfl, by rw [sepT_0 h0]; rfl⟩ (by repeat constructor)
  · skip
    have hge : k = ps.length := by have := of_decide_eq_false h9; omega
    refine T.exit ?_
    refine T.go (fun _ _ h => h) ?_
    refine T.rg ?_
    subst hge
    refine L.callO [] [_, _] [] rfl e31 rfl rfl (f31 b3 _ q v) ?_
    rintro _ _ ⟨rfl, rfl⟩
    refine L.as rfl rfl ?_
    refine L.nil ?_
    refine T.ret ?_
    refine G.conv (drop_at (i := 0) rfl rfl) ?_
    exact G.ret (res1 Try.results16 rfl) ⟨rfl, rfl⟩
end Go.Proofs.Ytlibfaghiogekaa
