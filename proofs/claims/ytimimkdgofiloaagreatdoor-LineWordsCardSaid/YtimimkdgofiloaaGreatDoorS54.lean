/- All words, and what belongs to them. Printed by gen.py. -/
import Derived.Test.YtimimkdgofiloaaGreatDoorS53
namespace Go.Proofs.YtimimkdgofiloaaGreatDoor
open Go Go.Q
abbrev FormV := ByteArray × Int × Int
def encF (p : FormV) : ByteArray × SV := (p.1, .g [.d (.i .i64 p.2.1), .d (.i .i64 p.2.2)])
def lookF : List FormV → ByteArray → Option (Int × Int)
  | [], _ => none
  | p :: ps, k => if p.1 = k then some p.2 else lookF ps k
theorem lookV_enc (k : ByteArray) : ∀ l : List FormV, lookV (l.map encF) k = (lookF l k).map fun q => .g [.d (.i .i64 q.1), .d (.i .i64 q.2)]
  | [] => rfl
  | p :: l => by
    rw [List.map_cons, lookV, lookF]
    show (if p.1 = k then _ else _) = _
    split
    · rfl
    · exact lookV_enc k l
abbrev zeroF : SV := .g [.d (.i .i64 0), .d (.i .i64 0)]
theorem look_get (l : List FormV) (k : ByteArray) : (lookV (l.map encF) k).getD zeroF = .g [.d (.i .i64 ((lookF l k).getD (0, 0)).1), .d (.i .i64 ((lookF l k).getD (0, 0)).2)] := by
  rw [lookV_enc]; cases lookF l k <;> rfl
theorem look_is (l : List FormV) (k : ByteArray) : (lookV (l.map encF) k).isSome = (lookF l k).isSome := by rw [lookV_enc]; cases lookF l k <;> rfl
theorem enc_ok (l : List FormV) : ∀ p ∈ l.map encF, okSV p.2 = true := by
  intro p hp
  obtain ⟨q, _, rfl⟩ := List.mem_map.1 hp
  rfl
def form0 : List FormV := [(⟨#[109, 111, 117, 110, 116]⟩, 1, 0), (⟨#[114, 101, 110, 100, 101, 114]⟩, 1, 0), (⟨#[101, 110, 103, 105, 110, 101]⟩, 2, 5), (⟨#[102, 105, 110, 100]⟩, 3, 0)]
def wsA : List ByteArray := [⟨#[116, 105, 99, 107]⟩, ⟨#[101, 110, 100]⟩, ⟨#[99, 97, 110, 99, 101, 108]⟩, ⟨#[108, 111, 111, 107]⟩]
def wsB : List ByteArray := [⟨#[117, 110, 109, 111, 117, 110, 116]⟩, ⟨#[102, 114, 97, 109, 101]⟩, ⟨#[115, 104, 111, 119]⟩, ⟨#[101, 114, 97, 115, 101, 100]⟩, ⟨#[118, 105, 101, 119]⟩, ⟨#[114, 101, 99, 116, 115]⟩, ⟨#[104, 111, 111, 107, 115]⟩, ⟨#[112, 101, 110, 100, 105, 110, 103]⟩, ⟨#[99, 108, 111, 99, 107]⟩, ⟨#[97, 117, 100, 105, 116]⟩, ⟨#[114, 101, 115, 116]⟩]
def formA (k : Nat) : List FormV := form0 ++ (wsA.take k).map fun w => (w, 2, 1)
def formB (k : Nat) : List FormV := formA 4 ++ (wsB.take k).map fun w => (w, 0, 0)
def formsL : List FormV := formB 11
theorem formA_step {k : Nat} (h : k < wsA.length) : (formA k).map encF ++ [(wsA[k], .g [.d (.i .i64 2), .d (.i .i64 1)])] = (formA (k + 1)).map encF := by
  unfold formA; rw [List.take_add_one, List.getElem?_eq_getElem h]; simp only [List.map_append, List.append_assoc, Option.toList, List.map_cons, List.map_nil]; rfl
theorem formB_step {k : Nat} (h : k < wsB.length) : (formB k).map encF ++ [(wsB[k], .g [.d (.i .i64 0), .d (.i .i64 0)])] = (formB (k + 1)).map encF := by
  unfold formB; rw [List.take_add_one, List.getElem?_eq_getElem h]; simp only [List.map_append, List.append_assoc, Option.toList, List.map_cons, List.map_nil]; rfl
theorem noA' : ∀ k : Fin 4, (lookF (formA k.val) (wsA.getD k.val ByteArray.empty)).isNone = true := by decide +kernel
theorem noB' : ∀ k : Fin 11, (lookF (formB k.val) (wsB.getD k.val ByteArray.empty)).isNone = true := by decide +kernel
theorem noA {k : Nat} (h : k < wsA.length) : lookV ((formA k).map encF) wsA[k] = none := by
  have h1 := noA' ⟨k, h⟩
  have h2 : wsA.getD k ByteArray.empty = wsA[k] := by rw [List.getD_eq_getElem?_getD, List.getElem?_eq_getElem h]; rfl
  simp only [h2] at h1
  rw [lookV_enc, Option.isNone_iff_eq_none.1 h1]; rfl
theorem noB {k : Nat} (h : k < wsB.length) : lookV ((formB k).map encF) wsB[k] = none := by
  have h1 := noB' ⟨k, h⟩
  have h2 : wsB.getD k ByteArray.empty = wsB[k] := by rw [List.getD_eq_getElem?_getD, List.getElem?_eq_getElem h]; rfl
  simp only [h2] at h1
  rw [lookV_enc, Option.isNone_iff_eq_none.1 h1]; rfl
set_option maxHeartbeats 2000000 in
theorem f19  : Fc Tryz.prog 19 [] [] (fun x Ω => ∃ g, x = aR (.map (some g)) ∧ Ω = [mapB g (formsL.map encF)]) := by
  refine Fc.enter Tryz.func19 rfl Tryz.ntmps19 rfl fun X w => ?_
  refine T.rg ?_
  refine L.as rfl rfl ?_
  refine L.nil ?_
  refine T.rg ?_
  refine L.mkMap rfl fun g => ?_
  refine L.bld p56 z56 rfl rfl rfl rfl rfl ?_
  refine L.mapIns 0 Tryz.underlying58 Tryz.underlying9 rfl rfl rfl rfl rfl (by kernel_rfl) rfl ?_
  refine L.bld p56 z56 rfl rfl rfl rfl rfl ?_
  refine L.mapIns 0 Tryz.underlying58 Tryz.underlying9 rfl rfl rfl rfl rfl (by kernel_rfl) rfl ?_
  refine L.bld p56 z56 rfl rfl rfl rfl rfl ?_
  refine L.mapIns 0 Tryz.underlying58 Tryz.underlying9 rfl rfl rfl rfl rfl (by kernel_rfl) rfl ?_
  refine L.bld p56 z56 rfl rfl rfl rfl rfl ?_
  refine L.mapIns 0 Tryz.underlying58 Tryz.underlying9 rfl rfl rfl rfl rfl (by kernel_rfl) rfl ?_
  refine L.mv rfl rfl ?_
  refine L.as rfl rfl ?_
  refine L.nil ?_
  refine T.of_seq ?_
  refine T.rg ?_
  refine L.bsD rfl Tryz.underlying27 i9 rfl rfl rfl rfl rfl ?_
  refine L.lenL Tryz.underlying27 rfl rfl fun hl13 => ?_
  refine L.mv rfl rfl ?_
  refine L.nil ?_
  refine T.block ?_
  refine T.loop (fun m σ Ω => ∃ k : Nat, k ≤ wsA.length ∧ m = wsA.length - k ∧ σ = [(14, aN k), (13, aN (wsA.length : Nat)), (12, aL 1 (strs wsA)), (1, aR (.map (some g)))] ∧ Ω = [mapB g ((formA k).map encF)]) (wsA.length) _ (⟨0, Nat.zero_le _, rfl, rfl, rfl⟩) (by repeat constructor) ?_
  rintro m σ Ω ⟨k, hk, rfl, rfl, rfl⟩
  have h4 : wsA.length = 4 := rfl
  refine T.rg ?_
  refine L.cmp rfl rfl rfl rfl ?_
  refine L.nil ?_
  refine T.of_seq ?_
  refine T.cond rfl (fun h15 => ?_) (fun h15 => ?_)
  · skip
    have hlt : k < wsA.length := by have := of_decide_eq_true h15; omega
    refine T.skip ?_
    refine T.go (fun _ _ h => h) ?_
    refine T.of_seq ?_
    refine T.block ?_
    refine T.rg ?_
    refine L.ixL k _ Tryz.underlying27 s9 rfl rfl rfl (strs_get hlt) rfl ?_
    refine L.li o9 rfl rfl ?_
    refine L.as rfl rfl ?_
    refine L.nil ?_
    refine T.region ?_
    refine L.mv rfl rfl ?_
    refine L.mv rfl rfl ?_
    refine L.bld p56 z56 rfl rfl rfl rfl rfl ?_
    refine L.mapPut 0 Tryz.underlying58 Tryz.underlying9 rfl rfl rfl rfl rfl (noA hlt) (congrArg (fun z => some [mapB g z]) (formA_step hlt)) ?_
    refine L.last ?_
    refine T.go (fun _ _ h => h) ?_
    refine T.region ?_
    refine L.ar ((k + 1 : Nat) : Int) rfl rfl rfl (by omega) rfl ?_
    refine L.mv rfl rfl ?_
    refine L.last ?_
    refine G.round (wsA.length - (k + 1)) _ (by omega) ⟨k + 1, by omega, rfl, rfl, rfl⟩ (by repeat constructor)
  · skip
    have hge : k = 4 := by have := of_decide_eq_false h15; have h4 : wsA.length = 4 := rfl; omega
    subst hge
    refine T.exit ?_
    refine T.go (fun _ _ h => h) ?_
    refine T.of_seq ?_
    refine T.rg ?_
    refine L.bsD rfl Tryz.underlying27 i9 rfl rfl rfl rfl rfl ?_
    refine L.lenL Tryz.underlying27 rfl rfl fun hl23 => ?_
    refine L.mv rfl rfl ?_
    refine L.nil ?_
    refine T.block ?_
    refine T.loop (fun m σ Ω => ∃ k : Nat, k ≤ wsB.length ∧ m = wsB.length - k ∧ σ = [(24, aN k), (23, aN (wsB.length : Nat)), (22, aL 1 (strs wsB)), (1, aR (.map (some g)))] ∧ Ω = [mapB g ((formB k).map encF)]) (wsB.length) _ (⟨0, Nat.zero_le _, rfl, rfl, rfl⟩) (by repeat constructor) ?_
    rintro m σ Ω ⟨k, hk, rfl, rfl, rfl⟩
    have h4 : wsB.length = 11 := rfl
    refine T.rg ?_
    refine L.cmp rfl rfl rfl rfl ?_
    refine L.nil ?_
    refine T.of_seq ?_
    refine T.cond rfl (fun h25 => ?_) (fun h25 => ?_)
    · skip
      have hlt : k < wsB.length := by have := of_decide_eq_true h25; omega
      refine T.skip ?_
      refine T.go (fun _ _ h => h) ?_
      refine T.of_seq ?_
      refine T.block ?_
      refine T.rg ?_
      refine L.ixL k _ Tryz.underlying27 s9 rfl rfl rfl (strs_get hlt) rfl ?_
      refine L.li o9 rfl rfl ?_
      refine L.as rfl rfl ?_
      refine L.nil ?_
      refine T.region ?_
      refine L.mv rfl rfl ?_
      refine L.mv rfl rfl ?_
      refine L.bld p56 z56 rfl rfl rfl rfl rfl ?_
      refine L.mapPut 0 Tryz.underlying58 Tryz.underlying9 rfl rfl rfl rfl rfl (noB hlt) (congrArg (fun z => some [mapB g z]) (formB_step hlt)) ?_
      refine L.last ?_
      refine T.go (fun _ _ h => h) ?_
      refine T.region ?_
      refine L.ar ((k + 1 : Nat) : Int) rfl rfl rfl (by omega) rfl ?_
      refine L.mv rfl rfl ?_
      refine L.last ?_
      refine G.round (wsB.length - (k + 1)) _ (by omega) ⟨k + 1, by omega, rfl, rfl, rfl⟩ (by repeat constructor)
    · skip
      have hge : k = 11 := by have := of_decide_eq_false h25; have h4 : wsB.length = 11 := rfl; omega
      subst hge
      refine T.exit ?_
      refine T.go (fun _ _ h => h) ?_
      refine T.rg ?_
      refine L.mv rfl rfl ?_
      refine L.as rfl rfl ?_
      refine L.nil ?_
      refine T.ret ?_
      exact G.ret (res1 Tryz.results19 rfl) ⟨g, rfl, rfl⟩

set_option maxHeartbeats 400000 in
theorem f14 (w : ByteArray) : Fc Tryz.prog 14 [S_ w] [] (Just (aN ((lookF formsL w).getD (0, 0)).2)) := by
  refine Fc.enter Tryz.func14 rfl Tryz.ntmps14 rfl fun X w => ?_
  refine T.rg ?_
  refine L.as rfl rfl ?_
  refine L.nil ?_
  refine T.rg ?_
  refine L.call e19 rfl rfl f19 ?_
  rintro _ _ ⟨g, rfl, rfl⟩
  refine L.mv rfl rfl ?_
  refine L.look 0 zeroF Tryz.underlying58 Tryz.underlying9 z56 rfl rfl rfl (by rw [look_get]; rfl) rfl ?_
  rw [look_get]
  refine L.fld Tryz.underlying56 rfl o3 s3 rfl rfl rfl rfl ?_
  refine L.as rfl rfl ?_
  refine L.nil ?_
  refine T.ret ?_
  refine G.conv (drop_at (i := 0) rfl rfl) ?_
  exact G.ret (res1 Tryz.results14 rfl) ⟨rfl, rfl⟩
end Go.Proofs.YtimimkdgofiloaaGreatDoor
