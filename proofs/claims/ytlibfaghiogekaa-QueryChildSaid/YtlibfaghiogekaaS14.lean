/- What fits a part, in the document. Printed by gen.py. -/
import Derived.Test.YtlibfaghiogekaaS13
import Derived.Test.YtlibfaghiogekaaS2
namespace Go.Proofs.Ytlibfaghiogekaa
open Go Go.Q
set_option maxHeartbeats 4000000 in
theorem f44 (p : SPart) (id kind : Int) (tag text : ByteArray) (cl : List ByteArray) (at' : List (ByteArray × ByteArray)) (st : List (ByteArray × Int)) (ks : List (List D)) (hsrt : Srt at') (hal : at'.length ≤ 900) : Fc Try.prog 44 [.g (nodeC id kind tag text cl at' st ks), .g p.cs] [] (Just (aB (fitsB kind tag cl at' p))) := by
  refine Fc.enter Try.func44 rfl Try.ntmps44 rfl fun X w => ?_
  refine T.rg ?_
  refine L.box rfl rfl fun b2 => ?_
  refine L.box rfl rfl fun b3 => ?_
  refine L.as rfl rfl ?_
  refine L.nil ?_
  refine T.cut (fun σ Ω => kind = 2 ∧ tagB tag p = true ∧ σ = [(3, aP b3 0), (2, aP b2 0)] ∧ Ω = [.blk b3 83 p.cs, .blk b2 57 (nodeC id kind tag text cl at' st ks)]) ?_ ?_
  · rintro σ Ω ⟨hkind, htag, rfl, rfl⟩
    refine T.of_seq ?_
    refine T.rg ?_
    refine L.fa Try.underlying83 rfl s24 rfl rfl ?_
    refine L.ld 0 o24 rfl rfl rfl rfl ?_
    refine L.lenL Try.underlying24 rfl rfl fun hl34 => ?_
    refine L.mv rfl rfl ?_
    refine L.nil ?_
    refine T.block ?_
    refine T.loop (fun m σ Ω => ∃ k : Nat, k ≤ p.classes.length ∧ m = p.classes.length - k ∧ (p.classes.take k).all (fun c => cl.any fun y => decide (y = c)) = true ∧ σ = [(35, aN k), (34, aN (strs p.classes).length), (33, aL 1 (strs p.classes)), (3, aP b3 0), (2, aP b2 0)] ∧ Ω = [.blk b3 83 p.cs, .blk b2 57 (nodeC id kind tag text cl at' st ks)]) (p.classes.length) _ (⟨0, by omega, by omega, by simp, rfl, rfl⟩) (by repeat constructor) ?_
    rintro m σ Ω ⟨k, hk, rfl, hall, rfl, rfl⟩
    have hll := strs_len p.classes
    refine T.rg ?_
    refine L.cmp rfl rfl rfl rfl ?_
    refine L.nil ?_
    refine T.of_seq ?_
    refine T.cond rfl (fun h36 => ?_) (fun h36 => ?_)
    · skip
      have hlt : k < p.classes.length := by simpa using h36
      refine T.skip ?_
      refine T.go (fun _ _ h => h) ?_
      refine T.of_seq ?_
      refine T.block ?_
      refine T.rg ?_
      refine L.ixL k _ Try.underlying24 s9 rfl rfl rfl (strs_get hlt) rfl ?_
      refine L.li o9 rfl rfl ?_
      refine L.as rfl rfl ?_
      refine L.nil ?_
      refine T.rg ?_
      refine L.fa Try.underlying57 rfl s24 rfl rfl ?_
      refine L.ld 1 o24 rfl rfl rfl rfl ?_
      refine L.mv rfl rfl ?_
      refine L.call e62 rfl rfl (f62 cl _) ?_
      rintro _ _ ⟨rfl, rfl⟩
      refine L.not rfl rfl ?_
      refine L.nil ?_
      refine T.cond rfl (fun h43 => ?_) (fun h43 => ?_)
      · skip
        refine T.rg ?_
        refine L.as rfl rfl ?_
        refine L.nil ?_
        refine T.ret ?_
        refine G.conv (drop_at (i := 0) rfl rfl) ?_
        refine G.conv (drop_at (i := 0) rfl rfl) ?_
        exact G.ret (res1 Try.results44 rfl) ⟨rfl, congrArg aB (by have hc : (p.classes.all fun c => cl.any fun y => decide (y = c)) = false := (by rw [List.all_eq_false]; exact ⟨p.classes[k], List.getElem_mem hlt, fun hq => by have hq2 : (cl.any fun y => decide (y = p.classes[k])) = true := hq; rw [hq2] at h43; cases h43⟩); simp only [fitsB, hc]; simp)⟩
      · skip
        refine T.skip ?_
        refine T.go (fun _ _ h => h) ?_
        refine T.region ?_
        refine L.ar ((k + 1 : Nat) : Int) rfl rfl rfl (by omega) rfl ?_
        refine L.mv rfl rfl ?_
        refine L.last ?_
        refine G.round (p.classes.length - (k + 1)) _ (by omega) ⟨k + 1, by omega, rfl, by rw [take_snoc' _ k hlt, List.all_append, hall]; simpa using h43, rfl, rfl⟩ (by repeat constructor)
    · skip
      have hge : p.classes.length ≤ k := by simpa using h36
      rw [List.take_of_length_le hge] at hall
      have hcls := hall
      refine T.exit ?_
      refine T.go (fun _ _ h => h) ?_
      refine T.of_seq ?_
      refine T.rg ?_
      refine L.fa Try.underlying83 rfl s81 rfl rfl ?_
      refine L.ld 0 o81 rfl rfl rfl rfl ?_
      refine L.lenL Try.underlying81 rfl rfl fun hl47 => ?_
      refine L.mv rfl rfl ?_
      refine L.nil ?_
      refine T.block ?_
      refine T.loop (fun m σ Ω => ∃ k : Nat, k ≤ p.pairs.length ∧ m = p.pairs.length - k ∧ (p.pairs.take k).all (hasB at') = true ∧ σ = [(48, aN k), (47, aN (qps p.pairs).length), (46, aL 3 (qps p.pairs)), (3, aP b3 0), (2, aP b2 0)] ∧ Ω = [.blk b3 83 p.cs, .blk b2 57 (nodeC id kind tag text cl at' st ks)]) (p.pairs.length) _ (⟨0, by omega, by omega, by simp, rfl, rfl⟩) (by repeat constructor) ?_
      rintro m σ Ω ⟨k, hk, rfl, hall, rfl, rfl⟩
      have hll := qps_len p.pairs
      refine T.rg ?_
      refine L.cmp rfl rfl rfl rfl ?_
      refine L.nil ?_
      refine T.of_seq ?_
      refine T.cond rfl (fun h49 => ?_) (fun h49 => ?_)
      · skip
        have hlt : k < p.pairs.length := by simpa using h49
        refine T.skip ?_
        refine T.go (fun _ _ h => h) ?_
        refine T.of_seq ?_
        refine T.block ?_
        refine T.rg ?_
        refine L.ixL k _ Try.underlying81 s116 rfl rfl rfl (qps_get hlt) rfl ?_
        refine L.lig a116 s116 rfl rfl rfl rfl ?_
        refine L.alloc z116 rfl rfl fun b8 => ?_
        refine L.stog 0 s116 rfl rfl rfl rfl rfl rfl ?_
        refine L.nil ?_
        refine T.rg ?_
        refine L.as rfl rfl ?_
        refine L.nil ?_
        refine T.of_seq ?_
        refine T.rg ?_
        refine L.fa Try.underlying57 rfl s34 rfl rfl ?_
        refine L.ld 2 o34 rfl rfl rfl rfl ?_
        refine L.lenL Try.underlying34 rfl rfl fun hl54 => ?_
        refine L.mv rfl rfl ?_
        refine L.nil ?_
        refine T.block ?_
        refine T.loop (fun m σ Ω => ∃ (j : Nat) (has : Bool), j ≤ at'.length ∧ m = at'.length - j ∧ has = (at'.take j).any (hasR p.pairs[k]) ∧ σ = [(55, aN j), (54, aN (ats at').length), (53, aL 2 (ats at')), (9, aB has), (8, aP b8 0), (48, aN k), (47, aN (qps p.pairs).length), (46, aL 3 (qps p.pairs)), (3, aP b3 0), (2, aP b2 0)] ∧ Ω = .blk b8 116 [.d (.s p.pairs[k].1), .d (.s p.pairs[k].2.1), .d (.b p.pairs[k].2.2)] :: [.blk b3 83 p.cs, .blk b2 57 (nodeC id kind tag text cl at' st ks)]) (at'.length) _ (⟨0, false, by omega, by omega, by simp, rfl, rfl⟩) (by repeat constructor) ?_
        rintro m σ Ω ⟨j, has, hj, rfl, hhas, rfl, rfl⟩
        have hla := ats_len at'
        refine T.rg ?_
        refine L.cmp rfl rfl rfl rfl ?_
        refine L.nil ?_
        refine T.of_seq ?_
        refine T.cond rfl (fun h56 => ?_) (fun h56 => ?_)
        · skip
          have hltj : j < at'.length := by simpa using h56
          refine T.skip ?_
          refine T.go (fun _ _ h => h) ?_
          refine T.of_seq ?_
          refine T.block ?_
          refine T.rg ?_
          refine L.ixL j _ Try.underlying34 s65 rfl rfl rfl (ats_get hltj) rfl ?_
          refine L.lig a65 s65 rfl rfl rfl rfl ?_
          refine L.alloc z65 rfl rfl fun b11 => ?_
          refine L.stog 0 s65 rfl rfl rfl rfl rfl rfl ?_
          refine L.nil ?_
          refine T.region ?_
          refine L.mv rfl rfl ?_
          refine L.mv rfl rfl ?_
          refine L.caseB 60 rfl (fun h60 => ?_) (fun h60 => ?_)
          · skip
            rw [h60] at hhas
            refine L.off rfl rfl rfl rfl ?_
            refine L.off rfl rfl rfl rfl ?_
            refine L.off rfl rfl rfl rfl ?_
            refine L.off rfl rfl rfl rfl ?_
            refine L.off rfl rfl rfl rfl ?_
            refine L.off rfl rfl rfl rfl ?_
            refine L.offU rfl rfl rfl ?_
            refine L.offU rfl rfl rfl ?_
            refine L.offU rfl rfl rfl ?_
            refine L.offU rfl rfl rfl ?_
            refine L.offU rfl rfl rfl ?_
            refine L.offU rfl rfl rfl ?_
            refine L.offU rfl rfl rfl ?_
            refine L.offU rfl rfl rfl ?_
            refine L.offU rfl rfl rfl ?_
            refine L.off rfl rfl rfl rfl ?_
            refine L.pkT rfl rfl rfl ?_
            refine L.as rfl rfl ?_
            refine L.last ?_
            refine T.go (fun _ _ h => h) ?_
            refine T.region ?_
            refine L.ar ((j + 1 : Nat) : Int) rfl rfl rfl (by omega) rfl ?_
            refine L.mv rfl rfl ?_
            refine L.last ?_
            refine G.conv (drop_at (i := 0) rfl rfl) ?_
            refine G.round (at'.length - (j + 1)) _ (by omega) ⟨j + 1, _, by omega, rfl, ?_, rfl, rfl⟩ (by repeat constructor)
            rw [take_snoc' _ j hltj, List.any_append, ← hhas]
            simp
          · skip
            refine L.on rfl rfl ?_
            refine L.fa Try.underlying65 rfl s9 rfl rfl ?_
            refine L.on rfl rfl ?_
            refine L.ld 0 o9 rfl rfl rfl rfl ?_
            refine L.on rfl rfl ?_
            refine L.fa Try.underlying116 rfl s9 rfl rfl ?_
            refine L.on rfl rfl ?_
            refine L.ld 1 o9 rfl rfl rfl rfl ?_
            refine L.on rfl rfl ?_
            refine L.eqS rfl rfl rfl ?_
            refine L.on rfl rfl ?_
            refine L.mv rfl rfl ?_
            refine L.caseB 66 rfl (fun h66 => ?_) (fun h66 => ?_)
            · skip
              refine L.on rfl rfl ?_
              refine L.fa Try.underlying116 rfl s4 rfl rfl ?_
              refine L.on rfl rfl ?_
              refine L.ld 1 o4 rfl rfl rfl rfl ?_
              refine L.on rfl rfl ?_
              refine L.mv rfl rfl ?_
              refine L.caseB 69 rfl (fun h69 => ?_) (fun h69 => ?_)
              · skip
                refine L.off rfl rfl rfl rfl ?_
                refine L.off rfl rfl rfl rfl ?_
                refine L.off rfl rfl rfl rfl ?_
                refine L.off rfl rfl rfl rfl ?_
                refine L.off rfl rfl rfl rfl ?_
                refine L.on rfl rfl ?_
                refine L.pkT rfl rfl rfl ?_
                refine L.on rfl rfl ?_
                refine L.pkT rfl rfl rfl ?_
                refine L.pkF rfl rfl rfl ?_
                refine L.as rfl rfl ?_
                refine L.last ?_
                refine T.go (fun _ _ h => h) ?_
                refine T.region ?_
                refine L.ar ((j + 1 : Nat) : Int) rfl rfl rfl (by omega) rfl ?_
                refine L.mv rfl rfl ?_
                refine L.last ?_
                refine G.conv (drop_at (i := 0) rfl rfl) ?_
                refine G.round (at'.length - (j + 1)) _ (by omega) ⟨j + 1, _, by omega, rfl, ?_, rfl, rfl⟩ (by repeat constructor)
                rw [take_snoc' _ j hltj, List.any_append, ← hhas]
                simp [hasR, h60, of_decide_eq_true h66, h69]
              · skip
                refine L.on rfl rfl ?_
                refine L.fa Try.underlying65 rfl s9 rfl rfl ?_
                refine L.on rfl rfl ?_
                refine L.ld 0 o9 rfl rfl rfl rfl ?_
                refine L.on rfl rfl ?_
                refine L.fa Try.underlying116 rfl s9 rfl rfl ?_
                refine L.on rfl rfl ?_
                refine L.ld 1 o9 rfl rfl rfl rfl ?_
                refine L.on rfl rfl ?_
                refine L.eqS rfl rfl rfl ?_
                refine L.on rfl rfl ?_
                refine L.pkF rfl rfl rfl ?_
                refine L.on rfl rfl ?_
                refine L.pkT rfl rfl rfl ?_
                refine L.pkF rfl rfl rfl ?_
                refine L.as rfl rfl ?_
                refine L.last ?_
                refine T.go (fun _ _ h => h) ?_
                refine T.region ?_
                refine L.ar ((j + 1 : Nat) : Int) rfl rfl rfl (by omega) rfl ?_
                refine L.mv rfl rfl ?_
                refine L.last ?_
                refine G.conv (drop_at (i := 0) rfl rfl) ?_
                refine G.round (at'.length - (j + 1)) _ (by omega) ⟨j + 1, _, by omega, rfl, ?_, rfl, rfl⟩ (by repeat constructor)
                rw [take_snoc' _ j hltj, List.any_append, ← hhas]
                simp [hasR, h60, of_decide_eq_true h66, h69]
            · skip
              refine L.off rfl rfl rfl rfl ?_
              refine L.off rfl rfl rfl rfl ?_
              refine L.off rfl rfl rfl rfl ?_
              refine L.offU rfl rfl rfl ?_
              refine L.offU rfl rfl rfl ?_
              refine L.offU rfl rfl rfl ?_
              refine L.offU rfl rfl rfl ?_
              refine L.offU rfl rfl rfl ?_
              refine L.off rfl rfl rfl rfl ?_
              refine L.on rfl rfl ?_
              refine L.pkF rfl rfl rfl ?_
              refine L.pkF rfl rfl rfl ?_
              refine L.as rfl rfl ?_
              refine L.last ?_
              refine T.go (fun _ _ h => h) ?_
              refine T.region ?_
              refine L.ar ((j + 1 : Nat) : Int) rfl rfl rfl (by omega) rfl ?_
              refine L.mv rfl rfl ?_
              refine L.last ?_
              refine G.conv (drop_at (i := 0) rfl rfl) ?_
              refine G.round (at'.length - (j + 1)) _ (by omega) ⟨j + 1, _, by omega, rfl, ?_, rfl, rfl⟩ (by repeat constructor)
              rw [take_snoc' _ j hltj, List.any_append, ← hhas]
              simp [hasR, h60, of_decide_eq_false h66]
        · skip
          have hgej : at'.length ≤ j := by simpa using h56
          rw [List.take_of_length_le hgej] at hhas
          refine T.exit ?_
          refine T.go (fun _ _ h => h) ?_
          refine T.rg ?_
          refine L.mv rfl rfl ?_
          refine L.not rfl rfl ?_
          refine L.nil ?_
          refine T.cond rfl (fun h80 => ?_) (fun h80 => ?_)
          · skip
            refine T.rg ?_
            refine L.as rfl rfl ?_
            refine L.nil ?_
            refine T.ret ?_
            refine G.conv (drop_at (i := 0) rfl rfl) ?_
            refine G.conv (drop_at (i := 0) rfl rfl) ?_
            refine G.conv (drop_at (i := 0) rfl rfl) ?_
            exact G.ret (res1 Try.results44 rfl) ⟨rfl, congrArg aB (by have hc : p.pairs.all (hasB at') = false := (by rw [List.all_eq_false]; exact ⟨p.pairs[k], List.getElem_mem hlt, by rw [← hasR_eq hsrt, ← hhas]; simpa using h80⟩); simp only [fitsB, hc]; simp)⟩
          · skip
            refine T.skip ?_
            refine T.go (fun _ _ h => h) ?_
            refine T.region ?_
            refine L.ar ((k + 1 : Nat) : Int) rfl rfl rfl (by omega) rfl ?_
            refine L.mv rfl rfl ?_
            refine L.last ?_
            refine G.conv (drop_at (i := 0) rfl rfl) ?_
            refine G.round (p.pairs.length - (k + 1)) _ (by omega) ⟨k + 1, by omega, rfl, by rw [take_snoc' _ k hlt, List.all_append, hall]; simp only [List.all_cons, List.all_nil, ← hasR_eq hsrt, ← hhas]; simpa using h80, rfl, rfl⟩ (by repeat constructor)
      · skip
        have hge : p.pairs.length ≤ k := by simpa using h49
        refine T.exit ?_
        refine T.go (fun _ _ h => h) ?_
        refine T.rg ?_
        refine L.as rfl rfl ?_
        refine L.nil ?_
        refine T.ret ?_
        refine G.conv (drop_at (i := 0) rfl rfl) ?_
        refine G.conv (drop_at (i := 0) rfl rfl) ?_
        exact G.ret (res1 Try.results44 rfl) ⟨rfl, congrArg aB (by rw [List.take_of_length_le hge] at hall; simp only [fitsB, hall, hcls, htag, hkind]; simp)⟩
  · skip
    refine T.rg ?_
    refine L.fa Try.underlying57 rfl s3 rfl rfl ?_
    refine L.ld 1 o3 rfl rfl rfl rfl ?_
    refine L.cmp rfl rfl rfl rfl ?_
    refine L.mv rfl rfl ?_
    refine L.caseB 15 rfl (fun h15 => ?_) (fun h15 => ?_)
    · skip
      refine L.off rfl rfl rfl rfl ?_
      refine L.off rfl rfl rfl rfl ?_
      refine L.off rfl rfl rfl rfl ?_
      refine L.off rfl rfl rfl rfl ?_
      refine L.offU rfl rfl rfl ?_
      refine L.offU rfl rfl rfl ?_
      refine L.offU rfl rfl rfl ?_
      refine L.off rfl rfl rfl rfl ?_
      refine L.off rfl rfl rfl rfl ?_
      refine L.offU rfl rfl rfl ?_
      refine L.offU rfl rfl rfl ?_
      refine L.offU rfl rfl rfl ?_
      refine L.offU rfl rfl rfl ?_
      refine L.offU rfl rfl rfl ?_
      refine L.off rfl rfl rfl rfl ?_
      refine L.pkT rfl rfl rfl ?_
      refine L.nil ?_
      refine T.condT rfl ?_
      refine T.rg ?_
      refine L.as rfl rfl ?_
      refine L.nil ?_
      refine T.ret ?_
      refine G.conv (drop_at (i := 0) rfl rfl) ?_
      refine G.conv (drop_at (i := 0) rfl rfl) ?_
      exact G.ret (res1 Try.results44 rfl) ⟨rfl, congrArg aB (by have hk : ¬ kind = 2 := (by simpa using h15); simp [fitsB, hk])⟩
    · skip
      refine L.on rfl rfl ?_
      refine L.fa Try.underlying83 rfl s9 rfl rfl ?_
      refine L.on rfl rfl ?_
      refine L.ld 0 o9 rfl rfl rfl rfl ?_
      refine L.on rfl rfl ?_
      refine L.neS rfl rfl rfl ?_
      refine L.on rfl rfl ?_
      refine L.mv rfl rfl ?_
      refine L.caseB 19 rfl (fun h19 => ?_) (fun h19 => ?_)
      · skip
        have n1 : ¬ p.tag = ByteArray.empty := by intro e; rw [e] at h19; exact absurd h19 (by decide)
        refine L.on rfl rfl ?_
        refine L.fa Try.underlying83 rfl s9 rfl rfl ?_
        refine L.on rfl rfl ?_
        refine L.ld 0 o9 rfl rfl rfl rfl ?_
        refine L.on rfl rfl ?_
        refine L.neS rfl rfl rfl ?_
        refine L.on rfl rfl ?_
        refine L.pkT rfl rfl rfl ?_
        refine L.on rfl rfl ?_
        refine L.mv rfl rfl ?_
        refine L.caseB 24 rfl (fun h24 => ?_) (fun h24 => ?_)
        · skip
          have n2 : ¬ p.tag = starB := by intro e; rw [e] at h24; exact absurd h24 (by decide)
          refine L.on rfl rfl ?_
          refine L.fa Try.underlying83 rfl s9 rfl rfl ?_
          refine L.on rfl rfl ?_
          refine L.ld 0 o9 rfl rfl rfl rfl ?_
          refine L.on rfl rfl ?_
          refine L.fa Try.underlying57 rfl s9 rfl rfl ?_
          refine L.on rfl rfl ?_
          refine L.ld 1 o9 rfl rfl rfl rfl ?_
          refine L.on rfl rfl ?_
          refine L.neS rfl rfl rfl ?_
          refine L.on rfl rfl ?_
          refine L.pkT rfl rfl rfl ?_
          refine L.pkF rfl rfl rfl ?_
          refine L.nil ?_
          refine T.cond rfl (fun h31 => ?_) (fun h31 => ?_)
          · skip
            have n3 : ¬ p.tag = tag := by intro e; rw [e] at h31; simp at h31
            have ht : tagB tag p = false := by simp [tagB, n1, n2, n3]
            refine T.rg ?_
            refine L.as rfl rfl ?_
            refine L.nil ?_
            refine T.ret ?_
            refine G.conv (drop_at (i := 0) rfl rfl) ?_
            refine G.conv (drop_at (i := 0) rfl rfl) ?_
            exact G.ret (res1 Try.results44 rfl) ⟨rfl, congrArg aB (by simp [fitsB, ht])⟩
          · skip
            have e : p.tag = tag := by simpa using h31
            have ht : tagB tag p = true := by simp [tagB, e]
            refine T.skip ?_
            exact G.cut [(3, aP b3 0), (2, aP b2 0)] ⟨by simpa using h15, ht, rfl, rfl⟩ (by repeat constructor)
        · skip
          have e : p.tag = starB := by have := h24; simp only [Bool.not_eq_false', decide_eq_true_eq] at this; exact this
          have ht : tagB tag p = true := by simp [tagB, e]
          refine L.off rfl rfl rfl rfl ?_
          refine L.off rfl rfl rfl rfl ?_
          refine L.off rfl rfl rfl rfl ?_
          refine L.off rfl rfl rfl rfl ?_
          refine L.off rfl rfl rfl rfl ?_
          refine L.on rfl rfl ?_
          refine L.pkF rfl rfl rfl ?_
          refine L.pkF rfl rfl rfl ?_
          refine L.nil ?_
          refine T.condF rfl ?_
          refine T.skip ?_
          exact G.cut [(3, aP b3 0), (2, aP b2 0)] ⟨by simpa using h15, ht, rfl, rfl⟩ (by repeat constructor)
      · skip
        have e : p.tag = ByteArray.empty := by have := h19; simp only [Bool.not_eq_false', decide_eq_true_eq] at this; exact this
        have ht : tagB tag p = true := by simp [tagB, e]
        refine L.off rfl rfl rfl rfl ?_
        refine L.off rfl rfl rfl rfl ?_
        refine L.off rfl rfl rfl rfl ?_
        refine L.on rfl rfl ?_
        refine L.pkF rfl rfl rfl ?_
        refine L.on rfl rfl ?_
        refine L.mv rfl rfl ?_
        refine L.off rfl rfl rfl rfl ?_
        refine L.off rfl rfl rfl rfl ?_
        refine L.off rfl rfl rfl rfl ?_
        refine L.off rfl rfl rfl rfl ?_
        refine L.off rfl rfl rfl rfl ?_
        refine L.on rfl rfl ?_
        refine L.pkF rfl rfl rfl ?_
        refine L.pkF rfl rfl rfl ?_
        refine L.nil ?_
        refine T.condF rfl ?_
        refine T.skip ?_
        exact G.cut [(3, aP b3 0), (2, aP b2 0)] ⟨by simpa using h15, ht, rfl, rfl⟩ (by repeat constructor)

-- end
end Go.Proofs.Ytlibfaghiogekaa
