/- Lists: searched, compared, copied. Printed by gen.py. -/
import Derived.Test.YtimimkdgofiloaaGreatDoorS1
import Derived.Test.YtimimkdgofiloaaGreatDoorQi
namespace Go.Proofs.YtimimkdgofiloaaGreatDoor
open Go Go.Q
set_option maxHeartbeats 1000000 in
theorem f9 (a b : List Int) : Fc Tryz.prog 9 [L_ 1 (ints a), L_ 1 (ints b)] [] (Just (aB (decide (a = b)))) := by
  refine Fc.enter Tryz.func9 rfl Tryz.ntmps9 rfl fun X w => ?_
  refine T.rg ?_
  refine L.as rfl rfl ?_
  refine L.nil ?_
  refine T.of_seq ?_
  refine T.rg ?_
  refine L.mv rfl rfl ?_
  refine L.lenL Tryz.underlying22 rfl rfl fun hl7 => ?_
  refine L.mv rfl rfl ?_
  refine L.lenL Tryz.underlying22 rfl rfl fun hl9 => ?_
  refine L.cmp rfl rfl rfl rfl ?_
  refine L.nil ?_
  refine T.condD (p := a.length ≠ b.length) rfl (by simp; omega) (fun h10 => ?_) (fun h10 => ?_)
  · skip
    refine T.rg ?_
    refine L.as rfl rfl ?_
    refine L.nil ?_
    refine T.ret ?_
    exact G.ret (res1 Tryz.results9 rfl) ⟨rfl, congrArg aB (by have h0 : a ≠ b := (fun e => h10 (by rw [e])); simp [h0])⟩
  · skip
    refine T.skip ?_
    refine T.go (fun _ _ h => h) ?_
    refine T.of_seq ?_
    refine T.rg ?_
    refine L.mv rfl rfl ?_
    refine L.lenL Tryz.underlying22 rfl rfl fun hl12 => ?_
    refine L.mv rfl rfl ?_
    refine L.nil ?_
    refine T.block ?_
    have hl : a.length = b.length := by omega
    refine T.loop (fun m σ Ω => ∃ k : Nat, k ≤ a.length ∧ m = a.length - k ∧ a.take k = b.take k ∧ σ = [(13, aN k), (12, aN (ints a).length), (1, aL 1 (ints b)), (0, aL 1 (ints a))] ∧ Ω = []) (a.length) _ (⟨0, by omega, by omega, by simp, rfl, rfl⟩) (by repeat constructor) ?_
    rintro m σ Ω ⟨k, hk, rfl, hx, rfl, rfl⟩
    have hlen := ints_len a
    refine T.rg ?_
    refine L.cmp rfl rfl rfl rfl ?_
    refine L.nil ?_
    refine T.of_seq ?_
    refine T.cond rfl (fun h14 => ?_) (fun h14 => ?_)
    · skip
      have hlt : k < a.length := by simpa using h14
      have hlt2 : k < b.length := by omega
      refine T.skip ?_
      refine T.go (fun _ _ h => h) ?_
      refine T.of_seq ?_
      refine T.block ?_
      refine T.rg ?_
      refine L.mv rfl rfl ?_
      refine L.as rfl rfl ?_
      refine L.nil ?_
      refine T.of_seq ?_
      refine T.drawD 8 [(0, aL 1 (ints a)), (1, aL 1 (ints b)), (5, aN k), (12, aN (ints a).length), (13, aN k)] [aL 1 (ints a), aN k, .v (.c (.ip [D.i .i64 a[k]])), aN a[k], aL 1 (ints b), aN k, .v (.c (.ip [D.i .i64 b[k]])), aN b[k]] hmixed rfl rfl rfl rfl (by repeat constructor) ⟨?_, ?_, ?_, ?_, ?_, ?_, ?_, ?_, trivial⟩ ?_
      · intro σ' Ωf hsb hA
        refine L.mv (hsb.get rfl) rfl ?_
        exact L.last (G.finD rfl)
      · intro σ' Ωf hsb hA
        refine L.mv (hsb.get rfl) rfl ?_
        exact L.last (G.finD rfl)
      · intro σ' Ωf hsb hA
        refine L.ixL k _ Tryz.underlying22 s3 (hA 0 rfl) (hA 1 rfl) rfl (ints_get hlt) rfl ?_
        exact L.last (G.finD rfl)
      · intro σ' Ωf hsb hA
        refine L.li o3 (hA 2 rfl) rfl ?_
        exact L.last (G.finD rfl)
      · intro σ' Ωf hsb hA
        refine L.mv (hsb.get rfl) rfl ?_
        exact L.last (G.finD rfl)
      · intro σ' Ωf hsb hA
        refine L.mv (hsb.get rfl) rfl ?_
        exact L.last (G.finD rfl)
      · intro σ' Ωf hsb hA
        refine L.ixL k _ Tryz.underlying22 s3 (hA 4 rfl) (hA 5 rfl) rfl (ints_get hlt2) rfl ?_
        exact L.last (G.finD rfl)
      · intro σ' Ωf hsb hA
        refine L.li o3 (hA 6 rfl) rfl ?_
        exact L.last (G.finD rfl)
      refine L.cmp rfl rfl rfl rfl ?_
      refine L.last ?_
      refine T.go (fun _ _ h => h) ?_
      refine T.cond rfl (fun h24 => ?_) (fun h24 => ?_)
      · skip
        refine T.rg ?_
        refine L.as rfl rfl ?_
        refine L.nil ?_
        refine T.ret ?_
        exact G.ret (res1 Tryz.results9 rfl) ⟨rfl, congrArg aB (by have h0 : a ≠ b := (fun e => (by subst e; simp at h24)); simp [h0])⟩
      · skip
        refine T.skip ?_
        refine T.go (fun _ _ h => h) ?_
        refine T.region ?_
        refine L.ar ((k + 1 : Nat) : Int) rfl rfl rfl (by omega) rfl ?_
        refine L.mv rfl rfl ?_
        refine L.last ?_
        refine G.round (a.length - (k + 1)) _ (by omega) ⟨k + 1, by omega, rfl, eq_take_step hl hlt hx (by simpa using h24), rfl, rfl⟩ (by repeat constructor)
    · skip
      have hge : a.length ≤ k := by simpa using h14
      refine T.exit ?_
      refine T.go (fun _ _ h => h) ?_
      refine T.rg ?_
      refine L.as rfl rfl ?_
      refine L.nil ?_
      refine T.ret ?_
      exact G.ret (res1 Tryz.results9 rfl) ⟨rfl, congrArg aB (by rw [List.take_of_length_le hge, List.take_of_length_le (by omega)] at hx; simp [hx])⟩
end Go.Proofs.YtimimkdgofiloaaGreatDoor
