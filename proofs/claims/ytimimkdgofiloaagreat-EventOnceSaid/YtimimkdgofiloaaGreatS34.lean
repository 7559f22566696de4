/- Target where there are no places; the fixed facts. Printed by gen.py. -/
import Derived.Test.YtimimkdgofiloaaGreatS33
namespace Go.Proofs.YtimimkdgofiloaaGreat
open Go Go.Q
set_option maxHeartbeats 400000 in
theorem f27  : Fc Tryz.prog 27 [L_ 5 []] [] (Just (aL 5 [])) := by
  refine Fc.enter Tryz.func27 rfl Tryz.ntmps27 rfl fun X w => ?_
  refine T.rg ?_
  refine L.as rfl rfl ?_
  refine L.nil ?_
  refine T.rg ?_
  refine L.as rfl rfl ?_
  refine L.nil ?_
  refine T.of_seq ?_
  refine T.rg ?_
  refine L.mv rfl rfl ?_
  refine L.lenL Tryz.underlying101 rfl rfl fun hl9 => ?_
  refine L.mv rfl rfl ?_
  refine L.nil ?_
  refine T.block ?_
  refine T.loop (fun m σ Ω => σ = [(10, aN 0), (9, aN 0), (8, aL 5 []), (3, aR nilV)] ∧ Ω = []) (0) _ (⟨rfl, rfl⟩) (by repeat constructor) ?_
  rintro m σ Ω ⟨rfl, rfl⟩
  refine T.rg ?_
  refine L.cmp rfl rfl rfl rfl ?_
  refine L.nil ?_
  refine T.of_seq ?_
  refine T.cond rfl (fun h11 => ?_) (fun h11 => ?_)
  · skip
    exact absurd h11 (by decide)
  · skip
    refine T.exit ?_
    refine T.go (fun _ _ h => h) ?_
    refine T.rg ?_
    refine L.mv rfl rfl ?_
    refine L.as rfl rfl ?_
    refine L.nil ?_
    refine T.ret ?_
    refine G.nilD 2 5 rfl ?_
    exact G.ret (res1 Tryz.results27 rfl) ⟨rfl, rfl⟩

set_option maxHeartbeats 400000 in
theorem f66 (n : Int) : Fc Tryz.prog 66 [L_ 5 [], N_ n, R_ (.func (.func 67) #[] #[])] [] (Just (.t [N_ 0, Bo false])) := by
  refine Fc.enter Tryz.func66 rfl Tryz.ntmps66 rfl fun X w => ?_
  refine T.rg ?_
  refine L.as rfl rfl ?_
  refine L.as rfl rfl ?_
  refine L.nil ?_
  refine T.rg ?_
  refine L.mv rfl rfl ?_
  refine L.lenL Tryz.underlying102 rfl rfl fun hl13 => ?_
  refine L.as rfl rfl ?_
  refine L.nil ?_
  refine T.rg ?_
  refine L.mv rfl rfl ?_
  refine L.as rfl rfl ?_
  refine L.as rfl rfl ?_
  refine L.nil ?_
  refine T.of_seq ?_
  refine T.block ?_
  refine T.loop (fun m σ Ω => σ = [(10, aN 0), (9, aN 0), (8, aN 0), (2, aR (.func (.func 67) #[] #[])), (1, aN n), (0, aL 5 [])] ∧ Ω = []) (0) _ (⟨rfl, rfl⟩) (by repeat constructor) ?_
  rintro m σ Ω ⟨rfl, rfl⟩
  refine T.of_seq ?_
  refine T.rg ?_
  refine L.mv rfl rfl ?_
  refine L.mv rfl rfl ?_
  refine L.cmp rfl rfl rfl rfl ?_
  refine L.nil ?_
  refine T.cond rfl (fun h17 => ?_) (fun h17 => ?_)
  · skip
    exact absurd h17 (by decide)
  · skip
    refine T.exit ?_
    refine T.go (fun _ _ h => h) ?_
    refine T.rg ?_
    refine L.mv rfl rfl ?_
    refine L.mv rfl rfl ?_
    refine L.mv rfl rfl ?_
    refine L.cmp rfl rfl rfl rfl ?_
    refine L.mv rfl rfl ?_
    refine L.caseB 39 rfl (fun h39 => ?_) (fun h39 => ?_)
    · skip
      exact absurd h39 (by decide)
    · skip
      refine L.off rfl rfl rfl rfl ?_
      refine L.off rfl rfl rfl rfl ?_
      refine L.off rfl rfl rfl rfl ?_
      refine L.off rfl rfl rfl rfl ?_
      refine L.off rfl rfl rfl rfl ?_
      refine L.off rfl rfl rfl rfl ?_
      refine L.off rfl rfl rfl rfl ?_
      refine L.off rfl rfl rfl rfl ?_
      refine L.pkF rfl rfl rfl ?_
      refine L.as rfl rfl ?_
      refine L.as rfl rfl ?_
      refine L.nil ?_
      refine T.ret ?_
      exact G.ret (res2 Tryz.results66 rfl rfl) ⟨rfl, rfl⟩

set_option maxHeartbeats 400000 in
theorem f47 (n : Int) : Fc Tryz.prog 47 [L_ 5 [], N_ n] [] (Just (.t [N_ 0, Bo false])) := by
  refine Fc.enter Tryz.func47 rfl Tryz.ntmps47 rfl fun X w => ?_
  refine T.rg ?_
  refine L.as rfl rfl ?_
  refine L.as rfl rfl ?_
  refine L.nil ?_
  refine T.rg ?_
  refine L.mv rfl rfl ?_
  refine L.mv rfl rfl ?_
  refine L.call e66 rfl rfl (f66 n) ?_
  rintro _ _ ⟨rfl, rfl⟩
  refine L.ex rfl rfl rfl ?_
  refine L.ex rfl rfl rfl ?_
  refine L.as rfl rfl ?_
  refine L.as rfl rfl ?_
  refine L.nil ?_
  refine T.ret ?_
  exact G.ret (res2 Tryz.results47 rfl rfl) ⟨rfl, rfl⟩

set_option maxHeartbeats 400000 in
theorem f29 (n : Int) : Fc Tryz.prog 29 [L_ 5 [], N_ n] [] (Just (.t [.g [.d (.i .i64 0), .d (.i .i64 0), .d (.i .i64 0), .d (.i .i64 0)], Bo false])) := by
  refine Fc.enter Tryz.func29 rfl Tryz.ntmps29 rfl fun X w => ?_
  refine T.rg ?_
  refine L.alloc z105 rfl rfl fun b4 => ?_
  refine L.as rfl rfl ?_
  refine L.nil ?_
  refine T.rg ?_
  refine L.mv rfl rfl ?_
  refine L.call e27 rfl rfl f27 ?_
  rintro _ _ ⟨rfl, rfl⟩
  refine L.as rfl rfl ?_
  refine L.nil ?_
  refine T.of_seq ?_
  refine T.rg ?_
  refine L.mv rfl rfl ?_
  refine L.mv rfl rfl ?_
  refine L.call e47 rfl rfl (f47 n) ?_
  rintro _ _ ⟨rfl, rfl⟩
  refine L.mv rfl rfl ?_
  refine L.ex rfl rfl rfl ?_
  refine L.ex rfl rfl rfl ?_
  refine L.as rfl rfl ?_
  refine L.as rfl rfl ?_
  refine L.nil ?_
  refine T.rg ?_
  refine L.mv rfl rfl ?_
  refine L.nil ?_
  refine T.cond rfl (fun h17 => ?_) (fun h17 => ?_)
  · skip
    exact absurd h17 (by decide)
  · skip
    refine T.skip ?_
    refine T.go (fun _ _ h => h) ?_
    refine T.rg ?_
    refine L.bld p105 z105 rfl rfl rfl rfl rfl ?_
    refine L.stog 0 s105 rfl rfl rfl rfl rfl rfl ?_
    refine L.as rfl rfl ?_
    refine L.nil ?_
    refine T.ret ?_
    exact G.retW (drop_at (i := 0) rfl rfl) (resCT (i := 0) Tryz.results29 rfl a105 s105 rfl rfl rfl) ⟨rfl, rfl⟩

set_option maxHeartbeats 1000000 in
theorem f28s (id kind : Int) (tag text : ByteArray) (cl : List ByteArray) (at' : List (ByteArray × ByteArray)) (st : List (ByteArray × Int)) (ks : List (List D)) (way : List Int) (x y : Int) (b5 b6 b7 b9 : Nat) : Fc Tryz.prog 28 [.g (nodeC id kind tag text cl at' st ks), L_ 1 (ints way), P_ b5 0, P_ b6 0, P_ b7 0, P_ b9 0] [.blk b5 102 [.d (.l 5 [])], .blk b6 3 [.d (.i .i64 x)], .blk b7 3 [.d (.i .i64 y)], .blk b9 3 [.d (.i .i64 (-1))]] (fun z Ω => z = aB true ∧ Ω = [.blk b5 102 [.d (.l 5 [])], .blk b6 3 [.d (.i .i64 x)], .blk b7 3 [.d (.i .i64 y)], .blk b9 3 [.d (.i .i64 (-1))]]) := by
  refine Fc.enter Tryz.func28 rfl Tryz.ntmps28 rfl fun X w => ?_
  refine T.rg ?_
  refine L.box rfl rfl fun b6 => ?_
  refine L.as rfl rfl ?_
  refine L.nil ?_
  refine T.of_seq ?_
  refine T.rg ?_
  refine L.ld 1 o102 rfl rfl rfl rfl ?_
  refine L.fa Tryz.underlying32 rfl s3 rfl rfl ?_
  refine L.ld 0 o3 rfl rfl rfl rfl ?_
  refine L.call e29 rfl rfl (f29 id) ?_
  rintro _ _ ⟨rfl, rfl⟩
  refine L.mv rfl rfl ?_
  refine L.ex rfl rfl rfl ?_
  refine L.ex rfl rfl rfl ?_
  refine L.alloc z105 rfl rfl fun b9 => ?_
  refine L.stog 0 s105 rfl rfl rfl rfl rfl rfl ?_
  refine L.as rfl rfl ?_
  refine L.nil ?_
  refine T.rg ?_
  refine L.mv rfl rfl ?_
  refine L.mv rfl rfl ?_
  refine L.caseB 19 rfl (fun h19 => ?_) (fun h19 => ?_)
  · skip
    exact absurd h19 (by decide)
  · skip
    refine L.off rfl rfl rfl rfl ?_
    refine L.off rfl rfl rfl rfl ?_
    refine L.off rfl rfl rfl rfl ?_
    refine L.off rfl rfl rfl rfl ?_
    refine L.pkF rfl rfl rfl ?_
    refine L.nil ?_
    refine T.condF rfl ?_
    refine T.skip ?_
    refine T.go (fun _ _ h => h) ?_
    refine T.rg ?_
    refine L.as rfl rfl ?_
    refine L.nil ?_
    refine T.ret ?_
    refine G.conv (drop_at (i := 0) rfl rfl) ?_
    refine G.conv (drop_at (i := 0) rfl rfl) ?_
    exact G.ret (res1 Tryz.results28 rfl) ⟨rfl, rfl⟩

theorem f28 (x y : Int) (b5 b6 b7 b9 : Nat) (t : Tr) (way : List Int) : Fc Tryz.prog 28 ([.g t.cs, L_ 1 (ints way)] ++ capS [.pointer (some ⟨b5, 0, none⟩), .pointer (some ⟨b6, 0, none⟩), .pointer (some ⟨b7, 0, none⟩), .pointer (some ⟨b9, 0, none⟩)]) [.blk b5 102 [.d (.l 5 [])], .blk b6 3 [.d (.i .i64 x)], .blk b7 3 [.d (.i .i64 y)], .blk b9 3 [.d (.i .i64 (-1))]] (fun z Ω => z = aB true ∧ Ω = [.blk b5 102 [.d (.l 5 [])], .blk b6 3 [.d (.i .i64 x)], .blk b7 3 [.d (.i .i64 y)], .blk b9 3 [.d (.i .i64 (-1))]]) := by
  cases t with
  | mk id kind tag text cl at' st kids => exact f28s id kind tag text cl at' st (kidsD kids) way x y b5 b6 b7 b9

set_option maxHeartbeats 1000000 in
theorem f13 (t : Tr) (hok : t.ok) (hsz : t.size ≤ 1000000) (x y : Int) : Fc Tryz.prog 13 [.g t.cs, L_ 5 [], N_ x, N_ y] [] (Just (aN (-1))) := by
  refine Fc.enter Tryz.func13 rfl Tryz.ntmps13 rfl fun X w => ?_
  refine T.rg ?_
  refine L.box rfl rfl fun b4 => ?_
  refine L.box rfl rfl fun b5 => ?_
  refine L.box rfl rfl fun b6 => ?_
  refine L.box rfl rfl fun b7 => ?_
  refine L.as rfl rfl ?_
  refine L.nil ?_
  refine T.rg ?_
  refine L.ld 2 o102 rfl rfl rfl rfl ?_
  refine L.call e27 rfl rfl f27 ?_
  rintro _ _ ⟨rfl, rfl⟩
  refine L.sto 2 s102 rfl rfl rfl rfl rfl ?_
  refine L.nil ?_
  refine T.rg ?_
  refine L.alloc z3 rfl rfl fun b9 => ?_
  refine L.sto 0 s3 rfl rfl rfl rfl rfl ?_
  refine L.nil ?_
  refine T.rg ?_
  refine L.ldg (ys := t.cs) 4 a32 s32 rfl rfl (by rw [List.drop_zero]; exact List.take_of_length_le (by show t.cs.length ≤ 8; rw [Tr.cs_d, List.length_map, Tr.d_len]; exact Nat.le_refl _)) (by rw [Tr.cs_d, List.length_map, Tr.d_len]) rfl ?_
  refine L.mf rfl rfl ?_
  refine L.conv (fun w hs => hs.perm (Ω' := [.blk b5 102 [.d (.l 5 [])], .blk b6 3 [.d (.i .i64 x)], .blk b7 3 [.d (.i .i64 y)], .blk b9 3 [.d (.i .i64 (-1))], .blk b4 32 t.cs]) (by exact (List.perm_append_comm (l₁ := [Ob.blk b9 3 [.d (.i .i64 (-1))], .blk b7 3 [.d (.i .i64 y)]]) (l₂ := [.blk b6 3 [.d (.i .i64 x)], .blk b5 102 [.d (.l 5 [])], .blk b4 32 t.cs])).trans ((List.Perm.swap _ _ _).trans (((List.Perm.refl [Ob.blk b5 102 [.d (.l 5 [])], .blk b6 3 [.d (.i .i64 x)]]).append ((List.perm_append_comm (l₁ := [Ob.blk b4 32 t.cs, .blk b9 3 [.d (.i .i64 (-1))]]) (l₂ := [.blk b7 3 [.d (.i .i64 y)]])).trans ((List.Perm.swap _ _ _).cons _))))))) ?_
  refine L.callO [] [.blk b5 102 [.d (.l 5 [])], .blk b6 3 [.d (.i .i64 x)], .blk b7 3 [.d (.i .i64 y)], .blk b9 3 [.d (.i .i64 (-1))]] [_] rfl e24 rfl rfl (Fc.nils [0, 1, 0] rfl (f24 28 [.pointer (some ⟨b5, 0, none⟩), .pointer (some ⟨b6, 0, none⟩), .pointer (some ⟨b7, 0, none⟩), .pointer (some ⟨b9, 0, none⟩)] e28 rfl (fun _ => [.blk b5 102 [.d (.l 5 [])], .blk b6 3 [.d (.i .i64 x)], .blk b7 3 [.d (.i .i64 y)], .blk b9 3 [.d (.i .i64 (-1))]]) (fun _ _ s => (true, s)) (fun t way _ _ _ => f28 x y b5 b6 b7 b9 t way) t.size t (Nat.le_refl _) hok [] (by simpa using hsz) ())) ?_
  rintro _ _ ⟨rfl, rfl⟩
  refine L.nil ?_
  refine T.rg ?_
  refine L.ld 3 o3 rfl rfl rfl rfl ?_
  refine L.as rfl rfl ?_
  refine L.nil ?_
  refine T.ret ?_
  refine G.conv (drop_at (i := 0) rfl rfl) ?_
  refine G.conv (drop_at (i := 0) rfl rfl) ?_
  refine G.conv (drop_at (i := 0) rfl rfl) ?_
  refine G.conv (drop_at (i := 0) rfl rfl) ?_
  refine G.conv (drop_at (i := 0) rfl rfl) ?_
  exact G.ret (res1 Tryz.results13 rfl) ⟨rfl, rfl⟩
end Go.Proofs.YtimimkdgofiloaaGreat
