/- What fits a part, in the program. Printed by gen.py. -/
import Derived.Test.YtimimkdgofiloaaGreatS12
import Derived.Test.YtimimkdgofiloaaGreatDf
namespace Go.Proofs.YtimimkdgofiloaaGreat
open Go Go.Q
set_option maxHeartbeats 1000000 in
theorem f65 (q : ByteArray × ByteArray × Bool) (id kind : Int) (tag text : ByteArray) (cl : List ByteArray) (at' : List (ByteArray × ByteArray)) (st : List (ByteArray × Int)) (ks : List (List D)) (hsrt : Srt at') (hal : at'.length ≤ 900) : Fc Tryz.prog 65 [.g [.d (.s q.1), .d (.s q.2.1), .d (.b q.2.2)], .g (nodeC id kind tag text cl at' st ks)] [] (Just (aB (hasB at' q))) := by
  refine Fc.enter Tryz.func65 rfl Tryz.ntmps65 rfl fun X w => ?_
  refine T.rg ?_
  refine L.box rfl rfl fun b2 => ?_
  refine L.box rfl rfl fun b3 => ?_
  refine L.as rfl rfl ?_
  refine L.nil ?_
  refine T.rg ?_
  refine L.fa Tryz.underlying32 rfl s27 rfl rfl ?_
  refine L.ld 0 o27 rfl rfl rfl rfl ?_
  refine L.fa Tryz.underlying145 rfl s9 rfl rfl ?_
  refine L.ld 1 o9 rfl rfl rfl rfl ?_
  refine L.call e61 rfl rfl (f61 at' hsrt (by omega) q.1) ?_
  rintro _ _ ⟨rfl, rfl⟩
  refine L.mv rfl rfl ?_
  refine L.ex rfl rfl rfl ?_
  refine L.ex rfl rfl rfl ?_
  refine L.as rfl rfl ?_
  refine L.as rfl rfl ?_
  refine L.nil ?_
  refine T.rg ?_
  refine L.mv rfl rfl ?_
  refine L.mv rfl rfl ?_
  refine L.caseB 16 rfl (fun h16 => ?_) (fun h16 => ?_)
  · skip
    refine L.on rfl rfl ?_
    refine L.fa Tryz.underlying145 rfl s4 rfl rfl ?_
    refine L.on rfl rfl ?_
    refine L.ld 1 o4 rfl rfl rfl rfl ?_
    refine L.on rfl rfl ?_
    refine L.mv rfl rfl ?_
    refine L.caseB 19 rfl (fun h19 => ?_) (fun h19 => ?_)
    · skip
      refine L.off rfl rfl rfl rfl ?_
      refine L.off rfl rfl rfl rfl ?_
      refine L.off rfl rfl rfl rfl ?_
      refine L.off rfl rfl rfl rfl ?_
      refine L.on rfl rfl ?_
      refine L.pkT rfl rfl rfl ?_
      refine L.pkT rfl rfl rfl ?_
      refine L.as rfl rfl ?_
      refine L.nil ?_
      refine T.ret ?_
      refine G.conv (drop_at (i := 0) rfl rfl) ?_
      refine G.conv (drop_at (i := 0) rfl rfl) ?_
      exact G.ret (res1 Tryz.results65 rfl) ⟨rfl, congrArg aB (by unfold hasB; cases hg : getM at' q.1 <;> simp_all)⟩
    · skip
      refine L.on rfl rfl ?_
      refine L.mv rfl rfl ?_
      refine L.on rfl rfl ?_
      refine L.fa Tryz.underlying145 rfl s9 rfl rfl ?_
      refine L.on rfl rfl ?_
      refine L.ld 1 o9 rfl rfl rfl rfl ?_
      refine L.on rfl rfl ?_
      refine L.eqS rfl rfl rfl ?_
      refine L.on rfl rfl ?_
      refine L.pkF rfl rfl rfl ?_
      refine L.pkT rfl rfl rfl ?_
      refine L.as rfl rfl ?_
      refine L.nil ?_
      refine T.ret ?_
      refine G.conv (drop_at (i := 0) rfl rfl) ?_
      refine G.conv (drop_at (i := 0) rfl rfl) ?_
      exact G.ret (res1 Tryz.results65 rfl) ⟨rfl, congrArg aB (by unfold hasB; cases hg : getM at' q.1 <;> simp_all)⟩
  · skip
    refine L.off rfl rfl rfl rfl ?_
    refine L.off rfl rfl rfl rfl ?_
    refine L.off rfl rfl rfl rfl ?_
    refine L.offU rfl rfl rfl ?_
    refine L.offU rfl rfl rfl ?_
    refine L.offU rfl rfl rfl ?_
    refine L.offU rfl rfl rfl ?_
    refine L.off rfl rfl rfl rfl ?_
    refine L.pkF rfl rfl rfl ?_
    refine L.as rfl rfl ?_
    refine L.nil ?_
    refine T.ret ?_
    refine G.conv (drop_at (i := 0) rfl rfl) ?_
    refine G.conv (drop_at (i := 0) rfl rfl) ?_
    exact G.ret (res1 Tryz.results65 rfl) ⟨rfl, congrArg aB (by unfold hasB; cases hg : getM at' q.1 <;> simp_all)⟩

set_option maxHeartbeats 400000 in
theorem f64 (q : ByteArray × ByteArray × Bool) (b : Nat) (id kind : Int) (tag text : ByteArray) (cl : List ByteArray) (at' : List (ByteArray × ByteArray)) (st : List (ByteArray × Int)) (ks : List (List D)) (hsrt : Srt at') (hal : at'.length ≤ 900) : Fc Tryz.prog 64 [.g [.d (.s q.1), .d (.s q.2.1), .d (.b q.2.2)], P_ b 0] [.blk b 32 (nodeC id kind tag text cl at' st ks)] (fun x Ω => x = aB (!hasB at' q) ∧ Ω = [.blk b 32 (nodeC id kind tag text cl at' st ks)]) := by
  refine Fc.enter Tryz.func64 rfl Tryz.ntmps64 rfl fun X w => ?_
  refine T.rg ?_
  refine L.box rfl rfl fun b2 => ?_
  refine L.as rfl rfl ?_
  refine L.nil ?_
  refine T.rg ?_
  refine L.ldg 0 a145 s145 rfl rfl rfl rfl rfl ?_
  refine L.ldg 1 a32 s32 rfl rfl rfl rfl rfl ?_
  refine L.call e65 rfl rfl (f65 q id kind tag text cl at' st ks hsrt hal) ?_
  rintro _ _ ⟨rfl, rfl⟩
  refine L.not rfl rfl ?_
  refine L.as rfl rfl ?_
  refine L.nil ?_
  refine T.ret ?_
  refine G.conv (drop_at (i := 0) rfl rfl) ?_
  exact G.ret (res1 Tryz.results64 rfl) ⟨rfl, rfl⟩

set_option maxHeartbeats 1000000 in
theorem f89 (ps : List (ByteArray × ByteArray × Bool)) (b : Nat) (id kind : Int) (tag text : ByteArray) (cl : List ByteArray) (at' : List (ByteArray × ByteArray)) (st : List (ByteArray × Int)) (ks : List (List D)) (hsrt : Srt at') (hal : at'.length ≤ 900) : Fc Tryz.prog 89 [L_ 3 (qps ps), R_ (.func (.func 64) #[] #[.pointer (some ⟨b, 0, none⟩)])] [.blk b 32 (nodeC id kind tag text cl at' st ks)] (fun x Ω => (∃ z : Int, x = aN z ∧ decide (0 ≤ z) = !ps.all (hasB at')) ∧ Ω = [.blk b 32 (nodeC id kind tag text cl at' st ks)]) := by
  refine Fc.enter Tryz.func89 rfl Tryz.ntmps89 rfl fun X w => ?_
  refine T.rg ?_
  refine L.as rfl rfl ?_
  refine L.nil ?_
  refine T.of_seq ?_
  refine T.rg ?_
  refine L.mv rfl rfl ?_
  refine L.lenL Tryz.underlying60 rfl rfl fun hl7 => ?_
  refine L.mv rfl rfl ?_
  refine L.nil ?_
  refine T.block ?_
  refine T.loop (fun m σ Ω => ∃ k : Nat, k ≤ ps.length ∧ m = ps.length - k ∧ (ps.take k).all (hasB at') = true ∧ σ = [(8, aN k), (7, aN (qps ps).length), (1, aR (.func (.func 64) #[] #[.pointer (some ⟨b, 0, none⟩)])), (0, aL 3 (qps ps))] ∧ Ω = [.blk b 32 (nodeC id kind tag text cl at' st ks)]) (ps.length) _ (⟨0, by omega, by omega, by simp, rfl, rfl⟩) (by repeat constructor) ?_
  rintro m σ Ω ⟨k, hk, rfl, hall, rfl, rfl⟩
  have hll := qps_len ps
  refine T.rg ?_
  refine L.cmp rfl rfl rfl rfl ?_
  refine L.nil ?_
  refine T.of_seq ?_
  refine T.cond rfl (fun h9 => ?_) (fun h9 => ?_)
  · skip
    have hlt : k < ps.length := by simpa using h9
    refine T.skip ?_
    refine T.go (fun _ _ h => h) ?_
    refine T.of_seq ?_
    refine T.block ?_
    refine T.rg ?_
    refine L.mv rfl rfl ?_
    refine L.as rfl rfl ?_
    refine L.nil ?_
    refine T.rg ?_
    refine L.mv rfl rfl ?_
    refine L.mv rfl rfl ?_
    refine L.mv rfl rfl ?_
    refine L.ixL k _ Tryz.underlying60 s145 rfl rfl rfl (qps_get hlt) rfl ?_
    refine L.lig a145 s145 rfl rfl rfl rfl ?_
    refine L.callV [] [_] [] rfl rfl e64 rfl rfl rfl (f64 ps[k] b id kind tag text cl at' st ks hsrt hal) ?_
    rintro _ _ ⟨rfl, rfl⟩
    refine L.nil ?_
    refine T.cond rfl (fun h16 => ?_) (fun h16 => ?_)
    · skip
      refine T.rg ?_
      refine L.mv rfl rfl ?_
      refine L.as rfl rfl ?_
      refine L.nil ?_
      refine T.ret ?_
      exact G.ret (res1 Tryz.results89 rfl) ⟨⟨_, rfl, by rw [show ps.all (hasB at') = false by rw [List.all_eq_false]; exact ⟨ps[k], List.getElem_mem hlt, by simpa using h16⟩]; simp⟩, rfl⟩
    · skip
      refine T.skip ?_
      refine T.go (fun _ _ h => h) ?_
      refine T.region ?_
      refine L.ar ((k + 1 : Nat) : Int) rfl rfl rfl (by omega) rfl ?_
      refine L.mv rfl rfl ?_
      refine L.last ?_
      refine G.round (ps.length - (k + 1)) _ (by omega) ⟨k + 1, by omega, rfl, by rw [take_snoc' ps k hlt, List.all_append, hall]; simpa using h16, rfl, rfl⟩ (by repeat constructor)
  · skip
    have hge : ps.length ≤ k := by simpa using h9
    refine T.exit ?_
    refine T.go (fun _ _ h => h) ?_
    refine T.rg ?_
    refine L.as rfl rfl ?_
    refine L.nil ?_
    refine T.ret ?_
    exact G.ret (res1 Tryz.results89 rfl) ⟨⟨_, rfl, by rw [List.take_of_length_le hge] at hall; rw [hall]; rfl⟩, rfl⟩

set_option maxHeartbeats 400000 in
theorem f63 (ps : List (ByteArray × ByteArray × Bool)) (b : Nat) (id kind : Int) (tag text : ByteArray) (cl : List ByteArray) (at' : List (ByteArray × ByteArray)) (st : List (ByteArray × Int)) (ks : List (List D)) (hsrt : Srt at') (hal : at'.length ≤ 900) : Fc Tryz.prog 63 [L_ 3 (qps ps), R_ (.func (.func 64) #[] #[.pointer (some ⟨b, 0, none⟩)])] [.blk b 32 (nodeC id kind tag text cl at' st ks)] (fun x Ω => x = aB (!ps.all (hasB at')) ∧ Ω = [.blk b 32 (nodeC id kind tag text cl at' st ks)]) := by
  refine Fc.enter Tryz.func63 rfl Tryz.ntmps63 rfl fun X w => ?_
  refine T.rg ?_
  refine L.as rfl rfl ?_
  refine L.nil ?_
  refine T.rg ?_
  refine L.mv rfl rfl ?_
  refine L.mv rfl rfl ?_
  refine L.callO [] [_] [] rfl e89 rfl rfl (f89 ps b id kind tag text cl at' st ks hsrt hal) ?_
  rintro _ _ ⟨⟨z, rfl, hz⟩, rfl⟩
  refine L.cmp rfl rfl rfl rfl ?_
  refine L.as rfl rfl ?_
  refine L.nil ?_
  refine T.ret ?_
  exact G.ret (res1 Tryz.results63 rfl) ⟨congrArg aB hz, rfl⟩

set_option maxHeartbeats 1000000 in
theorem f104 (l : List ByteArray) (x : ByteArray) : Fc Tryz.prog 104 [L_ 1 (strs l), S_ x] [] (fun y Ω => Ω = [] ∧ ∃ z : Int, y = aN z ∧ decide (0 ≤ z) = l.any fun y => decide (y = x)) := by
  refine Fc.enter Tryz.func104 rfl Tryz.ntmps104 rfl fun X w => ?_
  refine T.rg ?_
  refine L.as rfl rfl ?_
  refine L.nil ?_
  refine T.of_seq ?_
  refine T.rg ?_
  refine L.mv rfl rfl ?_
  refine L.lenL Tryz.underlying25 rfl rfl fun hl7 => ?_
  refine L.mv rfl rfl ?_
  refine L.nil ?_
  refine T.block ?_
  refine T.loop (fun m σ Ω => ∃ k : Nat, k ≤ l.length ∧ m = l.length - k ∧ (l.take k).any (fun y => decide (y = x)) = false ∧ σ = [(8, aN k), (7, aN (strs l).length), (1, aS x), (0, aL 1 (strs l))] ∧ Ω = []) (l.length) _ (⟨0, by omega, by omega, by simp, rfl, rfl⟩) (by repeat constructor) ?_
  rintro m σ Ω ⟨k, hk, rfl, hall, rfl, rfl⟩
  have hll := strs_len l
  refine T.rg ?_
  refine L.cmp rfl rfl rfl rfl ?_
  refine L.nil ?_
  refine T.of_seq ?_
  refine T.cond rfl (fun h9 => ?_) (fun h9 => ?_)
  · skip
    have hlt : k < l.length := by simpa using h9
    refine T.skip ?_
    refine T.go (fun _ _ h => h) ?_
    refine T.of_seq ?_
    refine T.block ?_
    refine T.rg ?_
    refine L.mv rfl rfl ?_
    refine L.as rfl rfl ?_
    refine L.nil ?_
    refine T.rg ?_
    refine L.mv rfl rfl ?_
    refine L.mv rfl rfl ?_
    refine L.mv rfl rfl ?_
    refine L.ixL k _ Tryz.underlying25 s9 rfl rfl rfl (strs_get hlt) rfl ?_
    refine L.li o9 rfl rfl ?_
    refine L.eqS rfl rfl rfl ?_
    refine L.nil ?_
    refine T.cond rfl (fun h16 => ?_) (fun h16 => ?_)
    · skip
      refine T.rg ?_
      refine L.mv rfl rfl ?_
      refine L.as rfl rfl ?_
      refine L.nil ?_
      refine T.ret ?_
      exact G.ret (res1 Tryz.results104 rfl) ⟨rfl, _, rfl, by rw [idx_any (fun y => decide (y = x)) l ⟨k, hlt, by simpa [eq_comm] using h16⟩]; simp⟩
    · skip
      refine T.skip ?_
      refine T.go (fun _ _ h => h) ?_
      refine T.region ?_
      refine L.ar ((k + 1 : Nat) : Int) rfl rfl rfl (by omega) rfl ?_
      refine L.mv rfl rfl ?_
      refine L.last ?_
      refine G.round (l.length - (k + 1)) _ (by omega) ⟨k + 1, by omega, rfl, by rw [take_snoc' l k hlt, List.any_append, hall]; simpa [eq_comm] using h16, rfl, rfl⟩ (by repeat constructor)
  · skip
    have hge : l.length ≤ k := by simpa using h9
    refine T.exit ?_
    refine T.go (fun _ _ h => h) ?_
    refine T.rg ?_
    refine L.as rfl rfl ?_
    refine L.nil ?_
    refine T.ret ?_
    exact G.ret (res1 Tryz.results104 rfl) ⟨rfl, _, rfl, by rw [List.take_of_length_le hge] at hall; rw [hall]; rfl⟩

set_option maxHeartbeats 400000 in
theorem f88 (l : List ByteArray) (x : ByteArray) : Fc Tryz.prog 88 [L_ 1 (strs l), S_ x] [] (Just (aB (l.any fun y => decide (y = x)))) := by
  refine Fc.enter Tryz.func88 rfl Tryz.ntmps88 rfl fun X w => ?_
  refine T.rg ?_
  refine L.as rfl rfl ?_
  refine L.nil ?_
  refine T.rg ?_
  refine L.mv rfl rfl ?_
  refine L.mv rfl rfl ?_
  refine L.call e104 rfl rfl (f104 l x) ?_
  rintro _ _ ⟨rfl, z, rfl, hz⟩
  refine L.cmp rfl rfl rfl rfl ?_
  refine L.as rfl rfl ?_
  refine L.nil ?_
  refine T.ret ?_
  exact G.ret (res1 Tryz.results88 rfl) ⟨rfl, congrArg aB hz⟩

set_option maxHeartbeats 400000 in
theorem f62 (l : List ByteArray) (x : ByteArray) : Fc Tryz.prog 62 [L_ 1 (strs l), S_ x] [] (Just (aB (l.any fun y => decide (y = x)))) := by
  refine Fc.enter Tryz.func62 rfl Tryz.ntmps62 rfl fun X w => ?_
  refine T.rg ?_
  refine L.as rfl rfl ?_
  refine L.nil ?_
  refine T.rg ?_
  refine L.mv rfl rfl ?_
  refine L.mv rfl rfl ?_
  refine L.call e88 rfl rfl (f88 l x) ?_
  rintro _ _ ⟨rfl, rfl⟩
  refine L.as rfl rfl ?_
  refine L.nil ?_
  refine T.ret ?_
  exact G.ret (res1 Tryz.results62 rfl) ⟨rfl, rfl⟩

set_option maxHeartbeats 4000000 in
theorem f45 (p : SPart) (id kind : Int) (tag text : ByteArray) (cl : List ByteArray) (at' : List (ByteArray × ByteArray)) (st : List (ByteArray × Int)) (ks : List (List D)) (hsrt : Srt at') (hal : at'.length ≤ 900) : Fc Tryz.prog 45 [.g p.cs, .g (nodeC id kind tag text cl at' st ks)] [] (Just (aB (fitsB kind tag cl at' p))) := by
  refine Fc.enter Tryz.func45 rfl Tryz.ntmps45 rfl fun X w => ?_
  refine T.rg ?_
  refine L.box rfl rfl fun b2 => ?_
  refine L.box rfl rfl fun b3 => ?_
  refine L.as rfl rfl ?_
  refine L.nil ?_
  refine T.of_seq ?_
  refine T.rg ?_
  refine L.fa Tryz.underlying32 rfl s3 rfl rfl ?_
  refine L.ld 0 o3 rfl rfl rfl rfl ?_
  refine L.cmp rfl rfl rfl rfl ?_
  refine L.mv rfl rfl ?_
  refine L.caseB 10 rfl (fun h10 => ?_) (fun h10 => ?_)
  · skip
    refine L.off rfl rfl rfl rfl ?_
    refine L.off rfl rfl rfl rfl ?_
    refine L.off rfl rfl rfl rfl ?_
    refine L.off rfl rfl rfl rfl ?_
    refine L.offU rfl rfl rfl ?_
    refine L.offU rfl rfl rfl ?_
    refine L.offU rfl rfl rfl ?_
    refine L.off rfl rfl rfl rfl ?_
    refine L.off rfl rfl rfl rfl ?_
    refine L.offU rfl rfl rfl ?_
    refine L.offU rfl rfl rfl ?_
    refine L.offU rfl rfl rfl ?_
    refine L.offU rfl rfl rfl ?_
    refine L.offU rfl rfl rfl ?_
    refine L.off rfl rfl rfl rfl ?_
    refine L.pkT rfl rfl rfl ?_
    refine L.nil ?_
    refine T.condT rfl ?_
    refine T.rg ?_
    refine L.as rfl rfl ?_
    refine L.nil ?_
    refine T.ret ?_
    refine G.conv (drop_at (i := 0) rfl rfl) ?_
    refine G.conv (drop_at (i := 0) rfl rfl) ?_
    exact G.ret (res1 Tryz.results45 rfl) ⟨rfl, congrArg aB (by have hk : ¬ kind = 2 := (by simpa using h10); simp [fitsB, hk])⟩
  · skip
    refine L.on rfl rfl ?_
    refine L.fa Tryz.underlying62 rfl s9 rfl rfl ?_
    refine L.on rfl rfl ?_
    refine L.ld 1 o9 rfl rfl rfl rfl ?_
    refine L.on rfl rfl ?_
    refine L.neS rfl rfl rfl ?_
    refine L.on rfl rfl ?_
    refine L.mv rfl rfl ?_
    refine L.caseB 14 rfl (fun h14 => ?_) (fun h14 => ?_)
    · skip
      have n1 : ¬ p.tag = ByteArray.empty := by intro e; rw [e] at h14; exact absurd h14 (by decide)
      refine L.on rfl rfl ?_
      refine L.fa Tryz.underlying62 rfl s9 rfl rfl ?_
      refine L.on rfl rfl ?_
      refine L.ld 1 o9 rfl rfl rfl rfl ?_
      refine L.on rfl rfl ?_
      refine L.neS rfl rfl rfl ?_
      refine L.on rfl rfl ?_
      refine L.pkT rfl rfl rfl ?_
      refine L.on rfl rfl ?_
      refine L.mv rfl rfl ?_
      refine L.caseB 19 rfl (fun h19 => ?_) (fun h19 => ?_)
      · skip
        have n2 : ¬ p.tag = starB := by intro e; rw [e] at h19; exact absurd h19 (by decide)
        refine L.on rfl rfl ?_
        refine L.fa Tryz.underlying62 rfl s9 rfl rfl ?_
        refine L.on rfl rfl ?_
        refine L.ld 1 o9 rfl rfl rfl rfl ?_
        refine L.on rfl rfl ?_
        refine L.fa Tryz.underlying32 rfl s9 rfl rfl ?_
        refine L.on rfl rfl ?_
        refine L.ld 0 o9 rfl rfl rfl rfl ?_
        refine L.on rfl rfl ?_
        refine L.neS rfl rfl rfl ?_
        refine L.on rfl rfl ?_
        refine L.pkT rfl rfl rfl ?_
        refine L.pkF rfl rfl rfl ?_
        refine L.nil ?_
        refine T.cond rfl (fun h26 => ?_) (fun h26 => ?_)
        · skip
          have n3 : ¬ p.tag = tag := by intro e; rw [e] at h26; simp at h26
          have ht : tagB tag p = false := by simp [tagB, n1, n2, n3]
          refine T.rg ?_
          refine L.as rfl rfl ?_
          refine L.nil ?_
          refine T.ret ?_
          refine G.conv (drop_at (i := 0) rfl rfl) ?_
          refine G.conv (drop_at (i := 0) rfl rfl) ?_
          exact G.ret (res1 Tryz.results45 rfl) ⟨rfl, congrArg aB (by simp [fitsB, ht])⟩
        · skip
          have e : p.tag = tag := by simpa using h26
          have ht : tagB tag p = true := by simp [tagB, e]
          refine T.skip ?_
          refine T.go (fun _ _ h => h) ?_
          refine T.of_seq ?_
          refine T.rg ?_
          refine L.fa Tryz.underlying62 rfl s25 rfl rfl ?_
          refine L.ld 1 o25 rfl rfl rfl rfl ?_
          refine L.lenL Tryz.underlying25 rfl rfl fun hl29 => ?_
          refine L.mv rfl rfl ?_
          refine L.nil ?_
          refine T.block ?_
          refine T.loop (fun m σ Ω => ∃ k : Nat, k ≤ p.classes.length ∧ m = p.classes.length - k ∧ (p.classes.take k).all (fun c => cl.any fun y => decide (y = c)) = true ∧ σ = [(30, aN k), (29, aN (strs p.classes).length), (28, aL 1 (strs p.classes)), (3, aP b3 0), (2, aP b2 0)] ∧ Ω = [.blk b3 32 (nodeC id kind tag text cl at' st ks), .blk b2 62 p.cs]) (p.classes.length) _ (⟨0, by omega, by omega, by simp, rfl, rfl⟩) (by repeat constructor) ?_
          rintro m σ Ω ⟨k, hk, rfl, hall, rfl, rfl⟩
          have hll := strs_len p.classes
          refine T.rg ?_
          refine L.cmp rfl rfl rfl rfl ?_
          refine L.nil ?_
          refine T.of_seq ?_
          refine T.cond rfl (fun h31 => ?_) (fun h31 => ?_)
          · skip
            have hlt : k < p.classes.length := by simpa using h31
            refine T.skip ?_
            refine T.go (fun _ _ h => h) ?_
            refine T.of_seq ?_
            refine T.block ?_
            refine T.rg ?_
            refine L.ixL k _ Tryz.underlying25 s9 rfl rfl rfl (strs_get hlt) rfl ?_
            refine L.li o9 rfl rfl ?_
            refine L.as rfl rfl ?_
            refine L.nil ?_
            refine T.rg ?_
            refine L.fa Tryz.underlying32 rfl s25 rfl rfl ?_
            refine L.ld 0 o25 rfl rfl rfl rfl ?_
            refine L.mv rfl rfl ?_
            refine L.call e62 rfl rfl (f62 cl _) ?_
            rintro _ _ ⟨rfl, rfl⟩
            refine L.not rfl rfl ?_
            refine L.nil ?_
            refine T.cond rfl (fun h38 => ?_) (fun h38 => ?_)
            · skip
              refine T.rg ?_
              refine L.as rfl rfl ?_
              refine L.nil ?_
              refine T.ret ?_
              refine G.conv (drop_at (i := 0) rfl rfl) ?_
              refine G.conv (drop_at (i := 0) rfl rfl) ?_
              exact G.ret (res1 Tryz.results45 rfl) ⟨rfl, congrArg aB (by have hc : (p.classes.all fun c => cl.any fun y => decide (y = c)) = false := (by rw [List.all_eq_false]; exact ⟨p.classes[k], List.getElem_mem hlt, fun hq => by have hq2 : (cl.any fun y => decide (y = p.classes[k])) = true := hq; rw [hq2] at h38; cases h38⟩); simp only [fitsB, hc]; simp)⟩
            · skip
              refine T.skip ?_
              refine T.go (fun _ _ h => h) ?_
              refine T.region ?_
              refine L.ar ((k + 1 : Nat) : Int) rfl rfl rfl (by omega) rfl ?_
              refine L.mv rfl rfl ?_
              refine L.last ?_
              refine G.round (p.classes.length - (k + 1)) _ (by omega) ⟨k + 1, by omega, rfl, by rw [take_snoc' _ k hlt, List.all_append, hall]; simpa using h38, rfl, rfl⟩ (by repeat constructor)
          · skip
            have hge : p.classes.length ≤ k := by simpa using h31
            refine T.exit ?_
            refine T.go (fun _ _ h => h) ?_
            refine T.rg ?_
            refine L.fa Tryz.underlying62 rfl s60 rfl rfl ?_
            refine L.ld 1 o60 rfl rfl rfl rfl ?_
            refine L.mf rfl rfl ?_
            refine L.callO [] [_] [_] rfl e63 rfl rfl (f63 p.pairs b3 id kind tag text cl at' st ks hsrt hal) ?_
            rintro _ _ ⟨rfl, rfl⟩
            refine L.not rfl rfl ?_
            refine L.as rfl rfl ?_
            refine L.nil ?_
            refine T.ret ?_
            refine G.conv (drop_at (i := 0) rfl rfl) ?_
            refine G.conv (drop_at (i := 0) rfl rfl) ?_
            exact G.ret (res1 Tryz.results45 rfl) ⟨rfl, congrArg aB (by have hk : kind = 2 := (by simpa using h10); rw [List.take_of_length_le hge] at hall; simp only [fitsB, hall, ht, hk]; simp)⟩
      · skip
        have e : p.tag = starB := by have := h19; simp only [Bool.not_eq_false', decide_eq_true_eq] at this; exact this
        have ht : tagB tag p = true := by simp [tagB, e]
        refine L.off rfl rfl rfl rfl ?_
        refine L.off rfl rfl rfl rfl ?_
        refine L.off rfl rfl rfl rfl ?_
        refine L.off rfl rfl rfl rfl ?_
        refine L.off rfl rfl rfl rfl ?_
        refine L.on rfl rfl ?_
        refine L.pkF rfl rfl rfl ?_
        refine L.pkF rfl rfl rfl ?_
        refine L.nil ?_
        refine T.condF rfl ?_
        refine T.skip ?_
        refine T.go (fun _ _ h => h) ?_
        refine T.of_seq ?_
        refine T.rg ?_
        refine L.fa Tryz.underlying62 rfl s25 rfl rfl ?_
        refine L.ld 1 o25 rfl rfl rfl rfl ?_
        refine L.lenL Tryz.underlying25 rfl rfl fun hl29 => ?_
        refine L.mv rfl rfl ?_
        refine L.nil ?_
        refine T.block ?_
        refine T.loop (fun m σ Ω => ∃ k : Nat, k ≤ p.classes.length ∧ m = p.classes.length - k ∧ (p.classes.take k).all (fun c => cl.any fun y => decide (y = c)) = true ∧ σ = [(30, aN k), (29, aN (strs p.classes).length), (28, aL 1 (strs p.classes)), (3, aP b3 0), (2, aP b2 0)] ∧ Ω = [.blk b3 32 (nodeC id kind tag text cl at' st ks), .blk b2 62 p.cs]) (p.classes.length) _ (⟨0, by omega, by omega, by simp, rfl, rfl⟩) (by repeat constructor) ?_
        rintro m σ Ω ⟨k, hk, rfl, hall, rfl, rfl⟩
        have hll := strs_len p.classes
        refine T.rg ?_
        refine L.cmp rfl rfl rfl rfl ?_
        refine L.nil ?_
        refine T.of_seq ?_
        refine T.cond rfl (fun h31 => ?_) (fun h31 => ?_)
        · skip
          have hlt : k < p.classes.length := by simpa using h31
          refine T.skip ?_
          refine T.go (fun _ _ h => h) ?_
          refine T.of_seq ?_
          refine T.block ?_
          refine T.rg ?_
          refine L.ixL k _ Tryz.underlying25 s9 rfl rfl rfl (strs_get hlt) rfl ?_
          refine L.li o9 rfl rfl ?_
          refine L.as rfl rfl ?_
          refine L.nil ?_
          refine T.rg ?_
          refine L.fa Tryz.underlying32 rfl s25 rfl rfl ?_
          refine L.ld 0 o25 rfl rfl rfl rfl ?_
          refine L.mv rfl rfl ?_
          refine L.call e62 rfl rfl (f62 cl _) ?_
          rintro _ _ ⟨rfl, rfl⟩
          refine L.not rfl rfl ?_
          refine L.nil ?_
          refine T.cond rfl (fun h38 => ?_) (fun h38 => ?_)
          · skip
            refine T.rg ?_
            refine L.as rfl rfl ?_
            refine L.nil ?_
            refine T.ret ?_
            refine G.conv (drop_at (i := 0) rfl rfl) ?_
            refine G.conv (drop_at (i := 0) rfl rfl) ?_
            exact G.ret (res1 Tryz.results45 rfl) ⟨rfl, congrArg aB (by have hc : (p.classes.all fun c => cl.any fun y => decide (y = c)) = false := (by rw [List.all_eq_false]; exact ⟨p.classes[k], List.getElem_mem hlt, fun hq => by have hq2 : (cl.any fun y => decide (y = p.classes[k])) = true := hq; rw [hq2] at h38; cases h38⟩); simp only [fitsB, hc]; simp)⟩
          · skip
            refine T.skip ?_
            refine T.go (fun _ _ h => h) ?_
            refine T.region ?_
            refine L.ar ((k + 1 : Nat) : Int) rfl rfl rfl (by omega) rfl ?_
            refine L.mv rfl rfl ?_
            refine L.last ?_
            refine G.round (p.classes.length - (k + 1)) _ (by omega) ⟨k + 1, by omega, rfl, by rw [take_snoc' _ k hlt, List.all_append, hall]; simpa using h38, rfl, rfl⟩ (by repeat constructor)
        · skip
          have hge : p.classes.length ≤ k := by simpa using h31
          refine T.exit ?_
          refine T.go (fun _ _ h => h) ?_
          refine T.rg ?_
          refine L.fa Tryz.underlying62 rfl s60 rfl rfl ?_
          refine L.ld 1 o60 rfl rfl rfl rfl ?_
          refine L.mf rfl rfl ?_
          refine L.callO [] [_] [_] rfl e63 rfl rfl (f63 p.pairs b3 id kind tag text cl at' st ks hsrt hal) ?_
          rintro _ _ ⟨rfl, rfl⟩
          refine L.not rfl rfl ?_
          refine L.as rfl rfl ?_
          refine L.nil ?_
          refine T.ret ?_
          refine G.conv (drop_at (i := 0) rfl rfl) ?_
          refine G.conv (drop_at (i := 0) rfl rfl) ?_
          exact G.ret (res1 Tryz.results45 rfl) ⟨rfl, congrArg aB (by have hk : kind = 2 := (by simpa using h10); rw [List.take_of_length_le hge] at hall; simp only [fitsB, hall, ht, hk]; simp)⟩
    · skip
      have e : p.tag = ByteArray.empty := by have := h14; simp only [Bool.not_eq_false', decide_eq_true_eq] at this; exact this
      have ht : tagB tag p = true := by simp [tagB, e]
      refine L.off rfl rfl rfl rfl ?_
      refine L.off rfl rfl rfl rfl ?_
      refine L.off rfl rfl rfl rfl ?_
      refine L.on rfl rfl ?_
      refine L.pkF rfl rfl rfl ?_
      refine L.on rfl rfl ?_
      refine L.mv rfl rfl ?_
      refine L.off rfl rfl rfl rfl ?_
      refine L.off rfl rfl rfl rfl ?_
      refine L.off rfl rfl rfl rfl ?_
      refine L.off rfl rfl rfl rfl ?_
      refine L.off rfl rfl rfl rfl ?_
      refine L.on rfl rfl ?_
      refine L.pkF rfl rfl rfl ?_
      refine L.pkF rfl rfl rfl ?_
      refine L.nil ?_
      refine T.condF rfl ?_
      refine T.skip ?_
      refine T.go (fun _ _ h => h) ?_
      refine T.of_seq ?_
      refine T.rg ?_
      refine L.fa Tryz.underlying62 rfl s25 rfl rfl ?_
      refine L.ld 1 o25 rfl rfl rfl rfl ?_
      refine L.lenL Tryz.underlying25 rfl rfl fun hl29 => ?_
      refine L.mv rfl rfl ?_
      refine L.nil ?_
      refine T.block ?_
      refine T.loop (fun m σ Ω => ∃ k : Nat, k ≤ p.classes.length ∧ m = p.classes.length - k ∧ (p.classes.take k).all (fun c => cl.any fun y => decide (y = c)) = true ∧ σ = [(30, aN k), (29, aN (strs p.classes).length), (28, aL 1 (strs p.classes)), (3, aP b3 0), (2, aP b2 0)] ∧ Ω = [.blk b3 32 (nodeC id kind tag text cl at' st ks), .blk b2 62 p.cs]) (p.classes.length) _ (⟨0, by omega, by omega, by simp, rfl, rfl⟩) (by repeat constructor) ?_
      rintro m σ Ω ⟨k, hk, rfl, hall, rfl, rfl⟩
      have hll := strs_len p.classes
      refine T.rg ?_
      refine L.cmp rfl rfl rfl rfl ?_
      refine L.nil ?_
      refine T.of_seq ?_
      refine T.cond rfl (fun h31 => ?_) (fun h31 => ?_)
      · skip
        have hlt : k < p.classes.length := by simpa using h31
        refine T.skip ?_
        refine T.go (fun _ _ h => h) ?_
        refine T.of_seq ?_
        refine T.block ?_
        refine T.rg ?_
        refine L.ixL k _ Tryz.underlying25 s9 rfl rfl rfl (strs_get hlt) rfl ?_
        refine L.li o9 rfl rfl ?_
        refine L.as rfl rfl ?_
        refine L.nil ?_
        refine T.rg ?_
        refine L.fa Tryz.underlying32 rfl s25 rfl rfl ?_
        refine L.ld 0 o25 rfl rfl rfl rfl ?_
        refine L.mv rfl rfl ?_
        refine L.call e62 rfl rfl (f62 cl _) ?_
        rintro _ _ ⟨rfl, rfl⟩
        refine L.not rfl rfl ?_
        refine L.nil ?_
        refine T.cond rfl (fun h38 => ?_) (fun h38 => ?_)
        · skip
          refine T.rg ?_
          refine L.as rfl rfl ?_
          refine L.nil ?_
          refine T.ret ?_
          refine G.conv (drop_at (i := 0) rfl rfl) ?_
          refine G.conv (drop_at (i := 0) rfl rfl) ?_
          exact G.ret (res1 Tryz.results45 rfl) ⟨rfl, congrArg aB (by have hc : (p.classes.all fun c => cl.any fun y => decide (y = c)) = false := (by rw [List.all_eq_false]; exact ⟨p.classes[k], List.getElem_mem hlt, fun hq => by have hq2 : (cl.any fun y => decide (y = p.classes[k])) = true := hq; rw [hq2] at h38; cases h38⟩); simp only [fitsB, hc]; simp)⟩
        · skip
          refine T.skip ?_
          refine T.go (fun _ _ h => h) ?_
          refine T.region ?_
          refine L.ar ((k + 1 : Nat) : Int) rfl rfl rfl (by omega) rfl ?_
          refine L.mv rfl rfl ?_
          refine L.last ?_
          refine G.round (p.classes.length - (k + 1)) _ (by omega) ⟨k + 1, by omega, rfl, by rw [take_snoc' _ k hlt, List.all_append, hall]; simpa using h38, rfl, rfl⟩ (by repeat constructor)
      · skip
        have hge : p.classes.length ≤ k := by simpa using h31
        refine T.exit ?_
        refine T.go (fun _ _ h => h) ?_
        refine T.rg ?_
        refine L.fa Tryz.underlying62 rfl s60 rfl rfl ?_
        refine L.ld 1 o60 rfl rfl rfl rfl ?_
        refine L.mf rfl rfl ?_
        refine L.callO [] [_] [_] rfl e63 rfl rfl (f63 p.pairs b3 id kind tag text cl at' st ks hsrt hal) ?_
        rintro _ _ ⟨rfl, rfl⟩
        refine L.not rfl rfl ?_
        refine L.as rfl rfl ?_
        refine L.nil ?_
        refine T.ret ?_
        refine G.conv (drop_at (i := 0) rfl rfl) ?_
        refine G.conv (drop_at (i := 0) rfl rfl) ?_
        exact G.ret (res1 Tryz.results45 rfl) ⟨rfl, congrArg aB (by have hk : kind = 2 := (by simpa using h10); rw [List.take_of_length_le hge] at hall; simp only [fitsB, hall, ht, hk]; simp)⟩
end Go.Proofs.YtimimkdgofiloaaGreat
