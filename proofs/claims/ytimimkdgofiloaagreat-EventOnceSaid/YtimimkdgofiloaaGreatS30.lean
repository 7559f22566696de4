/- Who is told: the way down a tree. Printed by gen.py. -/
import Derived.Test.YtimimkdgofiloaaGreatS15
import Derived.Test.YtimimkdgofiloaaGreatS19
import Derived.Test.YtimimkdgofiloaaGreatQv
namespace Go.Proofs.YtimimkdgofiloaaGreat
open Go Go.Q
abbrev ghostB : ByteArray := ⟨#[116, 45, 103, 104, 111, 115, 116]⟩
abbrev waitB : ByteArray := ⟨#[116, 45, 119, 97, 105, 116]⟩
def deafB (kind : Int) (cl : List ByteArray) (at' : List (ByteArray × ByteArray)) : Bool := (getM at' ghostB).isSome || (!decide (kind = 1) && cl.any fun y => decide (y = waitB))
theorem ints_append (a b : List Int) : ints (a ++ b) = ints a ++ ints b := by simp [ints]
mutual
def hearsM {S : Type} (g : Tr → List Int → S → Bool × S) : Tr → List Int → S → Bool × S
  | .mk id kind tag text cl at' st kids, way, s => if deafB kind cl at' then (true, s) else
      if (g (.mk id kind tag text cl at' st kids) (way ++ [id]) s).1 then kidsHears g kids (way ++ [id]) (g (.mk id kind tag text cl at' st kids) (way ++ [id]) s).2 else (false, (g (.mk id kind tag text cl at' st kids) (way ++ [id]) s).2)
def kidsHears {S : Type} (g : Tr → List Int → S → Bool × S) : List Tr → List Int → S → Bool × S
  | [], _, s => (true, s)
  | t :: l, way, s => if (hearsM g t way s).1 then kidsHears g l way (hearsM g t way s).2 else (false, (hearsM g t way s).2)
end
theorem kidsHears_drop {S : Type} (g : Tr → List Int → S → Bool × S) {l : List Tr} {k : Nat} (h : k < l.length) (way : List Int) (s : S) : kidsHears g (l.drop k) way s = if (hearsM g l[k] way s).1 then kidsHears g (l.drop (k + 1)) way (hearsM g l[k] way s).2 else (false, (hearsM g l[k] way s).2) := by
  rw [List.drop_eq_getElem_cons h]; rfl
set_option maxHeartbeats 400000 in
theorem f44 (l : List Int) (hlen : l.length ≤ 1000000) : Fc Tryz.prog 44 [L_ 1 (ints l)] [] (fun x Ω => ∃ v, x = aR v ∧ Ω = [.row v 3 1 (ints l)]) := by
  refine Fc.enter Tryz.func44 rfl Tryz.ntmps44 rfl fun X w => ?_
  refine T.rg ?_
  refine L.as rfl rfl ?_
  refine L.nil ?_
  refine T.of_seq ?_
  refine T.rg ?_
  refine L.mv rfl rfl ?_
  refine L.eqNil Tryz.underlying49 rfl rfl fun b hb => ?_
  refine L.nil ?_
  refine T.cond rfl (fun h4 => ?_) (fun h4 => ?_)
  · skip
    have hes : ints l = [] := hb h4
    refine T.rg ?_
    refine L.as rfl rfl ?_
    refine L.nil ?_
    refine T.ret ?_
    refine G.conv (nil_row 3 1) ?_
    exact G.ret (res1 Tryz.results44 rfl) ⟨_, rfl, by rw [hes]⟩
  · skip
    refine T.skip ?_
    refine T.go (fun _ _ h => h) ?_
    refine T.rg ?_
    refine L.bsR rfl Tryz.underlying49 i3 rfl rfl rfl rfl rfl fun b5 => ?_
    refine L.mv rfl rfl ?_
    refine L.app 0 Tryz.underlying49 i3 rfl rfl rfl rfl rfl (by simp; omega) (by simp; omega) rfl (fun _ => rfl) fun v7 => ?_
    refine L.as rfl rfl ?_
    refine L.nil ?_
    refine T.ret ?_
    exact G.ret (res1 Tryz.results44 rfl) ⟨_, rfl, rfl⟩

set_option maxHeartbeats 1000000 in
theorem f60 (l : List Int) (x : Int) : Fc Tryz.prog 60 [L_ 1 (ints l), N_ x] [] (fun y Ω => Ω = [] ∧ ∃ z : Int, y = aN z ∧ decide (0 ≤ z) = l.any fun y => decide (y = x)) := by
  refine Fc.enter Tryz.func60 rfl Tryz.ntmps60 rfl fun X w => ?_
  refine T.rg ?_
  refine L.as rfl rfl ?_
  refine L.nil ?_
  refine T.of_seq ?_
  refine T.rg ?_
  refine L.mv rfl rfl ?_
  refine L.lenL Tryz.underlying49 rfl rfl fun hl7 => ?_
  refine L.mv rfl rfl ?_
  refine L.nil ?_
  refine T.block ?_
  refine T.loop (fun m σ Ω => ∃ k : Nat, k ≤ l.length ∧ m = l.length - k ∧ (l.take k).any (fun y => decide (y = x)) = false ∧ σ = [(8, aN k), (7, aN (ints l).length), (1, aN x), (0, aL 1 (ints l))] ∧ Ω = []) (l.length) _ (⟨0, by omega, by omega, by simp, rfl, rfl⟩) (by repeat constructor) ?_
  rintro m σ Ω ⟨k, hk, rfl, hall, rfl, rfl⟩
  have hll := ints_len l
  refine T.rg ?_
  refine L.cmp rfl rfl rfl rfl ?_
  refine L.nil ?_
  refine T.of_seq ?_
  refine T.cond rfl (fun h9 => ?_) (fun h9 => ?_)
  · skip
    have hlt : k < l.length := by simpa using h9
    refine T.skip ?_
    refine T.go (fun _ _ h => h) ?_
    refine T.of_seq ?_
    refine T.block ?_
    refine T.rg ?_
    refine L.mv rfl rfl ?_
    refine L.as rfl rfl ?_
    refine L.nil ?_
    refine T.rg ?_
    refine L.mv rfl rfl ?_
    refine L.mv rfl rfl ?_
    refine L.mv rfl rfl ?_
    refine L.ixL k _ Tryz.underlying49 s3 rfl rfl rfl (ints_get hlt) rfl ?_
    refine L.li o3 rfl rfl ?_
    refine L.cmp rfl rfl rfl rfl ?_
    refine L.nil ?_
    refine T.cond rfl (fun h16 => ?_) (fun h16 => ?_)
    · skip
      refine T.rg ?_
      refine L.mv rfl rfl ?_
      refine L.as rfl rfl ?_
      refine L.nil ?_
      refine T.ret ?_
      exact G.ret (res1 Tryz.results60 rfl) ⟨rfl, _, rfl, by rw [idx_any (fun y => decide (y = x)) l ⟨k, hlt, by have h := h16; simp at h; simpa using h.symm⟩]; simp⟩
    · skip
      refine T.skip ?_
      refine T.go (fun _ _ h => h) ?_
      refine T.region ?_
      refine L.ar ((k + 1 : Nat) : Int) rfl rfl rfl (by omega) rfl ?_
      refine L.mv rfl rfl ?_
      refine L.last ?_
      refine G.round (l.length - (k + 1)) _ (by omega) ⟨k + 1, by omega, rfl, by rw [take_snoc' l k hlt, List.any_append, hall]; have h := h16; simp at h; simpa using fun e => h e.symm, rfl, rfl⟩ (by repeat constructor)
  · skip
    have hge : l.length ≤ k := by simpa using h9
    refine T.exit ?_
    refine T.go (fun _ _ h => h) ?_
    refine T.rg ?_
    refine L.as rfl rfl ?_
    refine L.nil ?_
    refine T.ret ?_
    exact G.ret (res1 Tryz.results60 rfl) ⟨rfl, _, rfl, by rw [List.take_of_length_le hge] at hall; rw [hall]; rfl⟩

set_option maxHeartbeats 400000 in
theorem f41 (l : List Int) (x : Int) : Fc Tryz.prog 41 [L_ 1 (ints l), N_ x] [] (Just (aB (l.any fun y => decide (y = x)))) := by
  refine Fc.enter Tryz.func41 rfl Tryz.ntmps41 rfl fun X w => ?_
  refine T.rg ?_
  refine L.as rfl rfl ?_
  refine L.nil ?_
  refine T.rg ?_
  refine L.mv rfl rfl ?_
  refine L.mv rfl rfl ?_
  refine L.call e60 rfl rfl (f60 l x) ?_
  rintro _ _ ⟨rfl, z, rfl, hz⟩
  refine L.cmp rfl rfl rfl rfl ?_
  refine L.as rfl rfl ?_
  refine L.nil ?_
  refine T.ret ?_
  exact G.ret (res1 Tryz.results41 rfl) ⟨rfl, congrArg aB hz⟩

set_option maxHeartbeats 1000000 in
theorem f43 (id kind : Int) (tag text : ByteArray) (cl : List ByteArray) (at' : List (ByteArray × ByteArray)) (st : List (ByteArray × Int)) (ks : List (List D)) (hsrt : Srt at') (hal : at'.length ≤ 900) : Fc Tryz.prog 43 [.g (nodeC id kind tag text cl at' st ks)] [] (Just (aB (deafB kind cl at'))) := by
  refine Fc.enter Tryz.func43 rfl Tryz.ntmps43 rfl fun X w => ?_
  refine T.rg ?_
  refine L.box rfl rfl fun b1 => ?_
  refine L.as rfl rfl ?_
  refine L.nil ?_
  refine T.rg ?_
  refine L.fa Tryz.underlying32 rfl s27 rfl rfl ?_
  refine L.ld 0 o27 rfl rfl rfl rfl ?_
  refine L.call e61 rfl rfl (f61 at' hsrt (by omega) ghostB) ?_
  rintro _ _ ⟨rfl, rfl⟩
  refine L.mv rfl rfl ?_
  refine L.ex rfl rfl rfl ?_
  refine L.ex rfl rfl rfl ?_
  refine L.as rfl rfl ?_
  refine L.as rfl rfl ?_
  refine L.nil ?_
  refine T.rg ?_
  refine L.mv rfl rfl ?_
  refine L.mv rfl rfl ?_
  refine L.caseB 12 rfl (fun h12 => ?_) (fun h12 => ?_)
  · skip
    refine L.off rfl rfl rfl rfl ?_
    refine L.off rfl rfl rfl rfl ?_
    refine L.off rfl rfl rfl rfl ?_
    refine L.off rfl rfl rfl rfl ?_
    refine L.offU rfl rfl rfl ?_
    refine L.offU rfl rfl rfl ?_
    refine L.offU rfl rfl rfl ?_
    refine L.off rfl rfl rfl rfl ?_
    refine L.pkT rfl rfl rfl ?_
    refine L.as rfl rfl ?_
    refine L.nil ?_
    refine T.ret ?_
    refine G.conv (drop_at (i := 0) rfl rfl) ?_
    exact G.ret (res1 Tryz.results43 rfl) ⟨rfl, congrArg aB (by unfold deafB; simp_all)⟩
  · skip
    refine L.on rfl rfl ?_
    refine L.fa Tryz.underlying32 rfl s3 rfl rfl ?_
    refine L.on rfl rfl ?_
    refine L.ld 0 o3 rfl rfl rfl rfl ?_
    refine L.on rfl rfl ?_
    refine L.cmp rfl rfl rfl rfl ?_
    refine L.on rfl rfl ?_
    refine L.mv rfl rfl ?_
    refine L.caseB 16 rfl (fun h16 => ?_) (fun h16 => ?_)
    · skip
      refine L.on rfl rfl ?_
      refine L.fa Tryz.underlying32 rfl s25 rfl rfl ?_
      refine L.on rfl rfl ?_
      refine L.ld 0 o25 rfl rfl rfl rfl ?_
      refine L.on rfl rfl ?_
      refine L.call e62 rfl rfl (f62 cl waitB) ?_
      rintro _ _ ⟨rfl, rfl⟩
      refine L.on rfl rfl ?_
      refine L.pkT rfl rfl rfl ?_
      refine L.pkF rfl rfl rfl ?_
      refine L.as rfl rfl ?_
      refine L.nil ?_
      refine T.ret ?_
      refine G.conv (drop_at (i := 0) rfl rfl) ?_
      exact G.ret (res1 Tryz.results43 rfl) ⟨rfl, congrArg aB (by unfold deafB; simp_all)⟩
    · skip
      refine L.off rfl rfl rfl rfl ?_
      refine L.off rfl rfl rfl rfl ?_
      refine L.off rfl rfl rfl rfl ?_
      refine L.on rfl rfl ?_
      refine L.pkF rfl rfl rfl ?_
      refine L.pkF rfl rfl rfl ?_
      refine L.as rfl rfl ?_
      refine L.nil ?_
      refine T.ret ?_
      refine G.conv (drop_at (i := 0) rfl rfl) ?_
      exact G.ret (res1 Tryz.results43 rfl) ⟨rfl, congrArg aB (by unfold deafB; simp_all)⟩

set_option maxHeartbeats 4000000 in
theorem f24s {S : Type} (gf : FuncId) (caps : List Value) (hg : enters Tryz.prog gf = true) (hcap : caps.all Value.oneCell' = true) (Ωs : S → List Ob) (g : Tr → List Int → S → Bool × S) (hV : ∀ (t : Tr) (way : List Int) (s : S), way.length ≤ 1000001 → t.ok → Fc Tryz.prog gf ([.g t.cs, L_ 1 (ints way)] ++ capS caps) (Ωs s) (fun x Ω => x = aB (g t way s).1 ∧ Ω = Ωs (g t way s).2)) (id kind : Int) (tag text : ByteArray) (cl : List ByteArray) (at' : List (ByteArray × ByteArray)) (st : List (ByteArray × Int)) (kids : List Tr) (hsrt : Srt at') (hal : at'.length ≤ 900) (hok : kidsOk kids) (hks : kids.length ≤ 1000000) (way : List Int) (hw : way.length ≤ 1000000) (s : S) (ih : ∀ (k : Nat) (h : k < kids.length) (s : S), Fc Tryz.prog 24 [.g kids[k].cs, L_ 1 (ints (way ++ [id])), R_ (.func (.func gf) #[] caps.toArray)] (Ωs s) (fun x Ω => x = aB (hearsM g kids[k] (way ++ [id]) s).1 ∧ Ω = Ωs (hearsM g kids[k] (way ++ [id]) s).2)) : Fc Tryz.prog 24 [.g (nodeC id kind tag text cl at' st (kidsD kids)), L_ 1 (ints way), R_ (.func (.func gf) #[] caps.toArray)] (Ωs s) (fun x Ω => x = aB (hearsM g (.mk id kind tag text cl at' st kids) way s).1 ∧ Ω = Ωs (hearsM g (.mk id kind tag text cl at' st kids) way s).2) := by
  refine Fc.enter Tryz.func24 rfl Tryz.ntmps24 rfl fun X w => ?_
  refine T.rg ?_
  refine L.box rfl rfl fun b3 => ?_
  refine L.as rfl rfl ?_
  refine L.nil ?_
  refine T.of_seq ?_
  refine T.rg ?_
  refine L.ldg 0 a32 s32 rfl rfl rfl rfl rfl ?_
  refine L.call e43 rfl rfl (f43 id kind tag text cl at' st (kidsD kids) hsrt hal) ?_
  rintro _ _ ⟨rfl, rfl⟩
  refine L.nil ?_
  refine T.cond rfl (fun h10 => ?_) (fun h10 => ?_)
  · skip
    refine T.rg ?_
    refine L.as rfl rfl ?_
    refine L.nil ?_
    refine T.ret ?_
    refine G.conv (drop_at (i := 0) rfl rfl) ?_
    exact G.ret (res1 Tryz.results24 rfl) ⟨by rw [hearsM, if_pos h10]; rfl, by rw [hearsM, if_pos h10]⟩
  · skip
    refine T.skip ?_
    refine T.go (fun _ _ h => h) ?_
    refine T.of_seq ?_
    refine T.drawC 5 [(3, aP b3 0), (2, aR (.func (.func gf) #[] caps.toArray)), (1, aL 1 (ints way))] (.blk b3 32 (nodeC id kind tag text cl at' st (kidsD kids)) :: Ωs s) (fun _ => []) [] (fun n x _ post => match n with
      | 0 => x = aL 1 (ints way) ∧ post = []
      | 1 => ∃ v, x = aR v ∧ post = [.row v 3 1 (ints way)]
      | 2 => x = aP b3 0 ∧ post = []
      | 3 => x = aD (.i .i64 id) ∧ post = []
      | 4 => x = aL 1 [[D.i .i64 id]] ∧ post = []
      | _ => False) hmixed rfl rfl rfl (by repeat constructor) (List.Perm.refl _) rfl ⟨?_, ?_, ?_, ?_, ?_, trivial⟩ ?_
    · intro X posts σ' Ωf hsb hA
      refine L.mv (hsb.get rfl) rfl ?_
      exact L.last (G.fin [] ⟨rfl, rfl⟩ rfl)
    · intro X posts σ' Ωf hsb hA
      have hx0 := (hA 0 rfl).2.1
      have l11 : σ'.lookup 11 = some (aL 1 (ints way)) := (hA 0 rfl).1.trans (congrArg some hx0)
      refine L.call e44 (evs1t l11) rfl (f44 way (by omega)) ?_
      rintro _ _ ⟨v, rfl, rfl⟩
      exact L.last (G.fin [_] ⟨v, rfl, rfl⟩ rfl)
    · intro X posts σ' Ωf hsb hA
      refine L.fa Tryz.underlying32 rfl s3 (hsb.get rfl) rfl ?_
      exact L.last (G.fin [] ⟨rfl, rfl⟩ rfl)
    · intro X posts σ' Ωf hsb hA
      have hx2 := (hA 2 rfl).2.1
      have l13 : σ'.lookup 13 = some (aP b3 0) := (hA 2 rfl).1.trans (congrArg some hx2)
      refine L.ld 0 o3 l13 rfl rfl rfl ?_
      exact L.last (G.fin [] ⟨rfl, rfl⟩ rfl)
    · intro X posts σ' Ωf hsb hA
      have hx3 := (hA 3 rfl).2.1
      have l14 : σ'.lookup 14 = some (aD (.i .i64 id)) := (hA 3 rfl).1.trans (congrArg some hx3)
      refine L.bsD rfl Tryz.underlying49 i3 rfl rfl (evp1 l14) rfl rfl ?_
      exact L.last (G.fin [] ⟨rfl, rfl⟩ rfl)
    intro X posts hR
    obtain ⟨hx0, hp0⟩ : X 0 = aL 1 (ints way) ∧ posts 0 = [] := hR 0 rfl
    obtain ⟨v, hx1, hp1⟩ : ∃ v, X 1 = aR v ∧ posts 1 = [.row v 3 1 (ints way)] := hR 1 rfl
    obtain ⟨hx2, hp2⟩ : X 2 = aP b3 0 ∧ posts 2 = [] := hR 2 rfl
    obtain ⟨hx3, hp3⟩ : X 3 = aD (.i .i64 id) ∧ posts 3 = [] := hR 3 rfl
    obtain ⟨hx4, hp4⟩ : X 4 = aL 1 [[D.i .i64 id]] ∧ posts 4 = [] := hR 4 rfl
    have hpp : (List.range 5).flatMap (leftC 5 (fun i => ([] : List (Option Nat)).getD i none) posts) = [.row v 3 1 (ints way)] := by
      show posts 0 ++ (posts 1 ++ (posts 2 ++ (posts 3 ++ (posts 4 ++ [])))) = _
      simp only [hp0, hp1, hp2, hp3, hp4, List.nil_append, List.append_nil]
    rw [hpp]
    refine L.sub (σ' := [(12, aR v), (15, aL 1 [[D.i .i64 id]]), (3, aP b3 0), (2, aR (.func (.func gf) #[] caps.toArray)), (1, aL 1 (ints way))]) ⟨congrArg some hx1, congrArg some hx4, rfl, rfl, rfl, trivial⟩ ?_
    refine L.app 0 Tryz.underlying49 i3 rfl rfl rfl rfl rfl (by simp; omega) (by simp; omega) rfl (fun _ => rfl) fun v16 => ?_
    refine L.as rfl rfl ?_
    refine L.last ?_
    refine T.go (fun _ _ h => h) ?_
    refine T.of_seq ?_
    refine T.rg ?_
    refine L.pub 1 0 rfl rfl rfl ?_
    rw [show ints way ++ [[D.i .i64 id]] = ints (way ++ [id]) from (ints_append way [id]).symm]
    refine L.mv rfl rfl ?_
    refine L.ldg 0 a32 s32 rfl rfl rfl rfl rfl ?_
    refine L.mv rfl rfl ?_
    refine L.callV [.blk b3 32 (nodeC id kind tag text cl at' st (kidsD kids))] (Ωs s) [] (by simp) rfl hg hcap (evs2t rfl rfl) rfl (hV (.mk id kind tag text cl at' st kids) (way ++ [id]) s (by simp; omega) ⟨hsrt, hal, hok⟩) ?_
    rintro _ _ ⟨rfl, rfl⟩
    simp only [List.cons_append, List.nil_append, List.append_nil]
    refine L.not rfl rfl ?_
    refine L.nil ?_
    refine T.cond rfl (fun h21 => ?_) (fun h21 => ?_)
    · skip
      have hgo : (g (.mk id kind tag text cl at' st kids) (way ++ [id]) s).1 = false := by simpa using h21
      refine T.rg ?_
      refine L.as rfl rfl ?_
      refine L.nil ?_
      refine T.ret ?_
      refine G.conv (drop_at (i := 0) rfl rfl) ?_
      exact G.ret (res1 Tryz.results24 rfl) ⟨by rw [hearsM, if_neg (by rw [h10]; decide), hgo]; rfl, by rw [hearsM, if_neg (by rw [h10]; decide), hgo]; rfl⟩
    · skip
      have hgo : (g (.mk id kind tag text cl at' st kids) (way ++ [id]) s).1 = true := by simpa using h21
      refine T.skip ?_
      refine T.go (fun _ _ h => h) ?_
      refine T.of_seq ?_
      refine T.rg ?_
      refine L.fa Tryz.underlying32 rfl s30 rfl rfl ?_
      refine L.ld 0 o30 rfl rfl rfl rfl ?_
      refine L.lenL Tryz.underlying30 rfl rfl fun hl24 => ?_
      refine L.mv rfl rfl ?_
      refine L.nil ?_
      refine T.block ?_
      have hH : hearsM g (.mk id kind tag text cl at' st kids) way s = kidsHears g (kids.drop 0) (way ++ [id]) (g (.mk id kind tag text cl at' st kids) (way ++ [id]) s).2 := by rw [hearsM, if_neg (by rw [h10]; decide), if_pos hgo]; rfl
      refine T.loop (fun m σ Ω => ∃ (k : Nat) (sk : S), k ≤ kids.length ∧ m = kids.length - k ∧ hearsM g (.mk id kind tag text cl at' st kids) way s = kidsHears g (kids.drop k) (way ++ [id]) sk ∧ σ = [(25, aN k), (24, aN (kidsD kids).length), (23, aL 8 (kidsD kids)), (2, aR (.func (.func gf) #[] caps.toArray)), (1, aL 1 (ints (way ++ [id]))), (3, aP b3 0)] ∧ Ω = .blk b3 32 (nodeC id kind tag text cl at' st (kidsD kids)) :: Ωs sk) (kids.length) _ (⟨0, _, Nat.zero_le _, rfl, hH, rfl, rfl⟩) (by repeat constructor) ?_
      rintro m σ Ω ⟨k, sk, hk, rfl, hHk, rfl, rfl⟩
      have hkl := kidsD_len kids
      refine T.rg ?_
      refine L.cmp rfl rfl rfl rfl ?_
      refine L.nil ?_
      refine T.of_seq ?_
      refine T.cond rfl (fun h26 => ?_) (fun h26 => ?_)
      · skip
        have hlt : k < kids.length := by have := of_decide_eq_true h26; omega
        refine T.skip ?_
        refine T.go (fun _ _ h => h) ?_
        refine T.of_seq ?_
        refine T.block ?_
        refine T.rg ?_
        refine L.ixL k _ Tryz.underlying30 s32 rfl rfl rfl (kidsD_get hlt) rfl ?_
        refine L.lig (ys := kids[k].d) a32 s32 rfl (List.take_of_length_le (by rw [Tr.d_len]; exact Nat.le_refl _)) (Tr.d_len _) rfl ?_
        rw [← Tr.cs_d]
        refine L.alloc z32 rfl rfl fun b8 => ?_
        refine L.stog 0 s32 rfl rfl rfl rfl (by rw [Tr.cs_d, List.length_map, Tr.d_len]; rfl) rfl ?_
        refine L.nil ?_
        refine T.rg ?_
        refine L.ldg (ys := kids[k].cs) 0 a32 s32 rfl rfl (by rw [List.drop_zero]; exact List.take_of_length_le (by rw [Tr.cs_d, List.length_map, Tr.d_len]; exact Nat.le_refl _)) (by rw [Tr.cs_d, List.length_map, Tr.d_len]) rfl ?_
        refine L.mv rfl rfl ?_
        refine L.mv rfl rfl ?_
        refine L.callO [.blk b8 32 kids[k].cs, .blk b3 32 (nodeC id kind tag text cl at' st (kidsD kids))] (Ωs sk) [] (by simp) e24 rfl rfl (ih k hlt sk) ?_
        rintro _ _ ⟨rfl, rfl⟩
        simp only [List.cons_append, List.nil_append, List.append_nil]
        refine L.not rfl rfl ?_
        refine L.nil ?_
        refine T.cond rfl (fun h33 => ?_) (fun h33 => ?_)
        · skip
          have hgk : (hearsM g kids[k] (way ++ [id]) sk).1 = false := by simpa using h33
          refine T.rg ?_
          refine L.as rfl rfl ?_
          refine L.nil ?_
          refine T.ret ?_
          refine G.conv (drop_at (i := 0) rfl rfl) ?_
          refine G.conv (drop_at (i := 0) rfl rfl) ?_
          exact G.ret (res1 Tryz.results24 rfl) ⟨by rw [hHk, kidsHears_drop g hlt, hgk]; rfl, by rw [hHk, kidsHears_drop g hlt, hgk]; rfl⟩
        · skip
          have hgk : (hearsM g kids[k] (way ++ [id]) sk).1 = true := by simpa using h33
          refine T.skip ?_
          refine T.go (fun _ _ h => h) ?_
          refine T.region ?_
          refine L.ar ((k + 1 : Nat) : Int) rfl rfl rfl (by omega) rfl ?_
          refine L.mv rfl rfl ?_
          refine L.last ?_
          refine G.conv (drop_at (i := 0) rfl rfl) ?_
          refine G.round (kids.length - (k + 1)) _ (by omega) ⟨k + 1, _, by omega, rfl, by rw [hHk, kidsHears_drop g hlt, if_pos hgk], rfl, rfl⟩ (by repeat constructor)
      · skip
        have hge : kids.length ≤ k := by have := of_decide_eq_false h26; omega
        refine T.exit ?_
        refine T.go (fun _ _ h => h) ?_
        refine T.rg ?_
        refine L.as rfl rfl ?_
        refine L.nil ?_
        refine T.ret ?_
        refine G.conv (drop_at (i := 0) rfl rfl) ?_
        exact G.ret (res1 Tryz.results24 rfl) ⟨by rw [hHk, List.drop_of_length_le hge]; rfl, by rw [hHk, List.drop_of_length_le hge]; rfl⟩

theorem f24 {S : Type} (gf : FuncId) (caps : List Value) (hg : enters Tryz.prog gf = true) (hcap : caps.all Value.oneCell' = true) (Ωs : S → List Ob) (g : Tr → List Int → S → Bool × S) (hV : ∀ (t : Tr) (way : List Int) (s : S), way.length ≤ 1000001 → t.ok → Fc Tryz.prog gf ([.g t.cs, L_ 1 (ints way)] ++ capS caps) (Ωs s) (fun x Ω => x = aB (g t way s).1 ∧ Ω = Ωs (g t way s).2)) : ∀ (n : Nat) (t : Tr), t.size ≤ n → t.ok → ∀ (way : List Int), way.length + t.size ≤ 1000000 → ∀ s : S, Fc Tryz.prog 24 [.g t.cs, L_ 1 (ints way), R_ (.func (.func gf) #[] caps.toArray)] (Ωs s) (fun x Ω => x = aB (hearsM g t way s).1 ∧ Ω = Ωs (hearsM g t way s).2)
  | 0, .mk _ _ _ _ _ _ _ kids, hn, _ => by simp [Tr.size] at hn
  | n + 1, .mk id kind tag text cl at' st kids, hn, hok => fun way hw s => by
    simp only [Tr.size] at hn hw
    have hl := kidsSize_len kids
    exact f24s gf caps hg hcap Ωs g hV id kind tag text cl at' st kids hok.1 hok.2.1 hok.2.2 (by omega) way (by omega) s fun k h s =>
      f24 gf caps hg hcap Ωs g hV n kids[k] (by have := kidsSize_get h; omega) (kidsOk_get hok.2.2 h) (way ++ [id]) (by have := kidsSize_get h; rw [List.length_append]; show way.length + 1 + _ ≤ _; omega) s
end Go.Proofs.YtimimkdgofiloaaGreat
