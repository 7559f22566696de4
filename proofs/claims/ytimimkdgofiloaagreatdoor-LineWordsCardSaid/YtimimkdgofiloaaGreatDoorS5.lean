/- The program's reader of selectors: pairs, parts, selectors. Printed by gen.py. -/
import Derived.Test.YtimimkdgofiloaaGreatDoorS4
namespace Go.Proofs.YtimimkdgofiloaaGreatDoor
open Go Go.Q
theorem f71n (b : Nat) (s : ByteArray) (k : Nat) (hk : k ≤ s.size) (hs : s.size ≤ 1000) : Fc Tryz.prog 71 [P_ b 0, S_ endsB, R_ (.func (.func 72) #[] #[])] [rd b s k false] (fun x Ω => x = aS (if nameB (tok stopB s k) = true then tok stopB s k else ByteArray.empty) ∧ Ω = [if nameB (tok stopB s k) = true then rd b s (k + tokLen stopB s k) false else rd b s k true]) := f71 stopB endsB 72 nameB f95e e72 f72 b s k hk hs
theorem f71v (b : Nat) (s : ByteArray) (k : Nat) (hk : k ≤ s.size) (hs : s.size ≤ 1000) : Fc Tryz.prog 71 [P_ b 0, S_ closeB, R_ (.func (.func 98) #[] #[])] [rd b s k false] (fun x Ω => x = aS (if valueB (tok (fun c => c == 93) s k) = true then tok (fun c => c == 93) s k else ByteArray.empty) ∧ Ω = [if valueB (tok (fun c => c == 93) s k) = true then rd b s (k + tokLen (fun c => c == 93) s k) false else rd b s k true]) := f71 (fun c => c == 93) closeB 98 valueB (fun t _ => f95c t) e98 f98 b s k hk hs
set_option maxHeartbeats 4000000 in
theorem f73 (b : Nat) (s : ByteArray) (k : Nat) (hk : k ≤ s.size) (hs : s.size ≤ 1000) : Fc Tryz.prog 73 [P_ b 0] [rd b s k false] (fun x Ω => x = .v (.g [.d (.s (pairX s k).1.1), .d (.s (pairX s k).1.2.1), .d (.b (pairX s k).1.2.2)]) ∧ Ω = [rd b s (pairX s k).2.1 (pairX s k).2.2]) := by
  refine Fc.enter Tryz.func73 rfl Tryz.ntmps73 rfl fun X w => ?_
  refine T.rg ?_
  refine L.alloc z124 rfl rfl fun b2 => ?_
  refine L.nil ?_
  refine T.rg ?_
  refine L.mv rfl rfl ?_
  have hts := tok_size stopB s k hk
  have htl := tokLen_le stopB s k
  refine L.callO [_] [_] [] rfl e71 rfl rfl (f71n b s k hk hs) ?_
  rintro _ _ ⟨rfl, rfl⟩
  by_cases hn : nameB (tok stopB s k) = true
  · skip
    rw [if_pos hn, if_pos hn]
    skip
    refine L.bld p124 z124 rfl rfl rfl rfl rfl ?_
    refine L.alloc z124 rfl rfl fun b3 => ?_
    refine L.stog 0 s124 rfl rfl rfl rfl rfl rfl ?_
    refine L.nil ?_
    refine T.of_seq ?_
    refine T.rg ?_
    refine L.mv rfl rfl ?_
    refine L.nilck rfl rfl ?_
    refine L.fa Tryz.underlying95 rfl s4 rfl rfl ?_
    refine L.ld 2 o4 rfl rfl rfl rfl ?_
    refine L.not rfl rfl ?_
    refine L.mv rfl rfl ?_
    refine L.on rfl rfl ?_
    refine L.mv rfl rfl ?_
    refine L.on rfl rfl ?_
    refine L.callO [_, _] [_] [] rfl e44 rfl rfl (f44 b s (k + tokLen stopB s k) false (by omega) hs) ?_
    rintro _ _ ⟨rfl, rfl⟩
    refine L.on rfl rfl ?_
    refine L.cmp rfl rfl rfl rfl ?_
    refine L.pkT rfl rfl rfl ?_
    refine L.nil ?_
    refine T.cond rfl (fun h16 => ?_) (fun h16 => ?_)
    · skip
      have h61 : nextB s (k + tokLen stopB s k) = 61 := UInt8.toNat_inj.1 (by have h := of_decide_eq_true h16; show _ = 61; omega)
      have hl1 := nextB_lt (s := s) (k := k + tokLen stopB s k) (by rw [h61]; decide)
      have hts2 := tok_size (fun c => c == 93) s (k + tokLen stopB s k + 1) (by omega)
      have htl2 := tokLen_le (fun c => c == 93) s (k + tokLen stopB s k + 1)
      refine T.rg ?_
      refine L.mv rfl rfl ?_
      refine L.nilck rfl rfl ?_
      refine L.fa Tryz.underlying95 rfl s3 rfl rfl ?_
      refine L.ld 2 o3 rfl rfl rfl rfl ?_
      refine L.ar ((k + tokLen stopB s k + 1 : Nat) : Int) rfl rfl rfl (by omega) rfl ?_
      refine L.nilck rfl rfl ?_
      refine L.fa Tryz.underlying95 rfl s3 rfl rfl ?_
      refine L.sto 2 s3 rfl rfl rfl rfl rfl ?_
      refine L.nil ?_
      refine T.region ?_
      refine L.mv rfl rfl ?_
      refine L.callO [_, _] [_] [] rfl e71 rfl rfl (f71v b s _ (by omega) hs) ?_
      rintro _ _ ⟨rfl, rfl⟩
      by_cases hv : valueB (tok (fun c => c == 93) s (k + tokLen stopB s k + 1)) = true
      · skip
        rw [if_pos hv, if_pos hv]
        skip
        refine L.fa Tryz.underlying124 rfl s4 rfl rfl ?_
        refine L.sto 0 s4 rfl rfl rfl rfl rfl ?_
        refine L.fa Tryz.underlying124 rfl s9 rfl rfl ?_
        refine L.sto 0 s9 rfl rfl rfl rfl rfl ?_
        refine L.last ?_
        refine T.go (fun _ _ h => h) ?_
        refine T.of_seq ?_
        refine T.rg ?_
        refine L.mv rfl rfl ?_
        refine L.nilck rfl rfl ?_
        refine L.fa Tryz.underlying95 rfl s4 rfl rfl ?_
        refine L.ld 2 o4 rfl rfl rfl rfl ?_
        refine L.not rfl rfl ?_
        refine L.nil ?_
        refine T.condT rfl ?_
        refine T.region ?_
        refine L.mv rfl rfl ?_
        refine L.callO [_, _] [_] [] rfl e99 rfl rfl (f99 b s (k + tokLen stopB s k + 1 + tokLen (fun c => c == 93) s (k + tokLen stopB s k + 1)) false (by omega) hs 93 (by decide)) ?_
        rintro _ _ ⟨rfl, rfl⟩
        by_cases h93 : nextB s (k + tokLen stopB s k + 1 + tokLen (fun c => c == 93) s (k + tokLen stopB s k + 1)) = 93
        · skip
          rw [if_pos h93]
          skip
          refine L.last ?_
          refine T.go (fun _ _ h => h) ?_
          refine T.rg ?_
          refine L.ldg 0 a124 s124 rfl rfl rfl rfl rfl ?_
          refine L.stog 1 s124 rfl rfl rfl rfl rfl rfl ?_
          refine L.nil ?_
          refine T.ret ?_
          refine G.conv (drop_at (i := 0) rfl rfl) ?_
          exact G.retW (drop_at (i := 0) rfl rfl) (resC (i := 0) Tryz.results73 rfl a124 s124 rfl rfl) ⟨by simp [pairX, hn, h61, hv, h93, kCV] <;> (first | rfl | exact ⟨rfl, rfl⟩), by simp [pairX, hn, h61, hv, h93]⟩
        · skip
          rw [if_neg h93]
          skip
          refine L.last ?_
          refine T.go (fun _ _ h => h) ?_
          refine T.rg ?_
          refine L.ldg 0 a124 s124 rfl rfl rfl rfl rfl ?_
          refine L.stog 1 s124 rfl rfl rfl rfl rfl rfl ?_
          refine L.nil ?_
          refine T.ret ?_
          refine G.conv (drop_at (i := 0) rfl rfl) ?_
          exact G.retW (drop_at (i := 0) rfl rfl) (resC (i := 0) Tryz.results73 rfl a124 s124 rfl rfl) ⟨by simp [pairX, hn, h61, hv, h93, kCV] <;> (first | rfl | exact ⟨rfl, rfl⟩), by simp [pairX, hn, h61, hv, h93]⟩
      · skip
        rw [if_neg hv, if_neg hv]
        skip
        refine L.fa Tryz.underlying124 rfl s4 rfl rfl ?_
        refine L.sto 0 s4 rfl rfl rfl rfl rfl ?_
        refine L.fa Tryz.underlying124 rfl s9 rfl rfl ?_
        refine L.sto 0 s9 rfl rfl rfl rfl rfl ?_
        refine L.last ?_
        refine T.go (fun _ _ h => h) ?_
        refine T.of_seq ?_
        refine T.rg ?_
        refine L.mv rfl rfl ?_
        refine L.nilck rfl rfl ?_
        refine L.fa Tryz.underlying95 rfl s4 rfl rfl ?_
        refine L.ld 2 o4 rfl rfl rfl rfl ?_
        refine L.not rfl rfl ?_
        refine L.nil ?_
        refine T.condF rfl ?_
        refine T.skip ?_
        refine T.go (fun _ _ h => h) ?_
        refine T.rg ?_
        refine L.ldg 0 a124 s124 rfl rfl rfl rfl rfl ?_
        refine L.stog 1 s124 rfl rfl rfl rfl rfl rfl ?_
        refine L.nil ?_
        refine T.ret ?_
        refine G.conv (drop_at (i := 0) rfl rfl) ?_
        exact G.retW (drop_at (i := 0) rfl rfl) (resC (i := 0) Tryz.results73 rfl a124 s124 rfl rfl) ⟨by simp [pairX, hn, h61, hv, kCV] <;> (first | rfl | exact ⟨rfl, rfl⟩), by simp [pairX, hn, h61, hv]⟩
    · skip
      have h61 : ¬ nextB s (k + tokLen stopB s k) = 61 := by intro e; rw [e] at h16; exact absurd h16 (by decide)
      refine T.skip ?_
      refine T.go (fun _ _ h => h) ?_
      refine T.of_seq ?_
      refine T.rg ?_
      refine L.mv rfl rfl ?_
      refine L.nilck rfl rfl ?_
      refine L.fa Tryz.underlying95 rfl s4 rfl rfl ?_
      refine L.ld 2 o4 rfl rfl rfl rfl ?_
      refine L.not rfl rfl ?_
      refine L.nil ?_
      refine T.condT rfl ?_
      refine T.region ?_
      refine L.mv rfl rfl ?_
      refine L.callO [_, _] [_] [] rfl e99 rfl rfl (f99 b s (k + tokLen stopB s k) false (by omega) hs 93 (by decide)) ?_
      rintro _ _ ⟨rfl, rfl⟩
      by_cases h93 : nextB s (k + tokLen stopB s k) = 93
      · skip
        rw [if_pos h93]
        skip
        refine L.last ?_
        refine T.go (fun _ _ h => h) ?_
        refine T.rg ?_
        refine L.ldg 0 a124 s124 rfl rfl rfl rfl rfl ?_
        refine L.stog 1 s124 rfl rfl rfl rfl rfl rfl ?_
        refine L.nil ?_
        refine T.ret ?_
        refine G.conv (drop_at (i := 0) rfl rfl) ?_
        exact G.retW (drop_at (i := 0) rfl rfl) (resC (i := 0) Tryz.results73 rfl a124 s124 rfl rfl) ⟨by simp [pairX, hn, h61, h93, kCV] <;> (first | rfl | exact ⟨rfl, rfl⟩), by simp [pairX, hn, h61, h93]⟩
      · skip
        rw [if_neg h93]
        skip
        refine L.last ?_
        refine T.go (fun _ _ h => h) ?_
        refine T.rg ?_
        refine L.ldg 0 a124 s124 rfl rfl rfl rfl rfl ?_
        refine L.stog 1 s124 rfl rfl rfl rfl rfl rfl ?_
        refine L.nil ?_
        refine T.ret ?_
        refine G.conv (drop_at (i := 0) rfl rfl) ?_
        exact G.retW (drop_at (i := 0) rfl rfl) (resC (i := 0) Tryz.results73 rfl a124 s124 rfl rfl) ⟨by simp [pairX, hn, h61, h93, kCV] <;> (first | rfl | exact ⟨rfl, rfl⟩), by simp [pairX, hn, h61, h93]⟩
  · skip
    rw [if_neg hn, if_neg hn]
    skip
    refine L.bld p124 z124 rfl rfl rfl rfl rfl ?_
    refine L.alloc z124 rfl rfl fun b3 => ?_
    refine L.stog 0 s124 rfl rfl rfl rfl rfl rfl ?_
    refine L.nil ?_
    refine T.of_seq ?_
    refine T.rg ?_
    refine L.mv rfl rfl ?_
    refine L.nilck rfl rfl ?_
    refine L.fa Tryz.underlying95 rfl s4 rfl rfl ?_
    refine L.ld 2 o4 rfl rfl rfl rfl ?_
    refine L.not rfl rfl ?_
    refine L.mv rfl rfl ?_
    refine L.off rfl rfl rfl rfl ?_
    refine L.off rfl rfl rfl rfl ?_
    refine L.off rfl rfl rfl rfl ?_
    refine L.pkF rfl rfl rfl ?_
    refine L.nil ?_
    refine T.condF rfl ?_
    refine T.skip ?_
    refine T.go (fun _ _ h => h) ?_
    refine T.of_seq ?_
    refine T.rg ?_
    refine L.mv rfl rfl ?_
    refine L.nilck rfl rfl ?_
    refine L.fa Tryz.underlying95 rfl s4 rfl rfl ?_
    refine L.ld 2 o4 rfl rfl rfl rfl ?_
    refine L.not rfl rfl ?_
    refine L.nil ?_
    refine T.condF rfl ?_
    refine T.skip ?_
    refine T.go (fun _ _ h => h) ?_
    refine T.rg ?_
    refine L.ldg 0 a124 s124 rfl rfl rfl rfl rfl ?_
    refine L.stog 1 s124 rfl rfl rfl rfl rfl rfl ?_
    refine L.nil ?_
    refine T.ret ?_
    refine G.conv (drop_at (i := 0) rfl rfl) ?_
    exact G.retW (drop_at (i := 0) rfl rfl) (resC (i := 0) Tryz.results73 rfl a124 s124 rfl rfl) ⟨by simp [pairX, hn, kCV] <;> (first | rfl | exact ⟨rfl, rfl⟩), by simp [pairX, hn]⟩
end Go.Proofs.YtimimkdgofiloaaGreatDoor
