/- A way to a node; who is called at a node; a row from its end. Printed by gen.py. -/
import Derived.Test.YtimimkdgofiloaaGreatS30
import Derived.Test.YtimimkdgofiloaaGreatQv
namespace Go.Proofs.YtimimkdgofiloaaGreat
open Go Go.Q
def idOf : Tr → Int
  | .mk id _ _ _ _ _ _ _ => id
def outC : Option (List Int) → CV
  | none => .r nilV
  | some w => .d (.l 1 (ints w))
def visP (x : Int) (t : Tr) (way : List Int) (o : Option (List Int)) : Bool × Option (List Int) := (!decide (idOf t = x), if idOf t = x then some way else o)
def pathM (t : Tr) (x : Int) : List Int := ((hearsM (visP x) t [] none).2).getD []
abbrev LisV := List SPart × Bool × Bool
def lisS (l : List LisV) : List (List D) := l.map fun e => [D.l 4 (sel e.1), D.b e.2.1, D.b e.2.2]
def fitS (l : List (List Int)) : List (List D) := l.map fun m => [D.l 1 (ints m)]
def calS (l : List (Int × Int)) : List (List D) := l.map fun p => [D.i .i64 p.1, D.i .i64 p.2]
theorem lis_len (l : List LisV) : (lisS l).length = l.length := by simp [lisS]
theorem fit_len (l : List (List Int)) : (fitS l).length = l.length := by simp [fitS]
theorem cal_len (l : List (Int × Int)) : (calS l).length = l.length := by simp [calS]
theorem lis_get {l : List LisV} {k : Nat} (h : k < l.length) : (lisS l)[k]? = some [D.l 4 (sel l[k].1), D.b l[k].2.1, D.b l[k].2.2] := by simp [lisS, h]
theorem fit_get {l : List (List Int)} {k : Nat} (h : k < l.length) : (fitS l)[k]? = some [D.l 1 (ints l[k])] := by simp [fitS, h]
theorem cal_snoc (l : List (Int × Int)) (p : Int × Int) : calS (l ++ [p]) = calS l ++ [[D.i .i64 p.1, D.i .i64 p.2]] := by simp [calS]
/-- The calls so far; whether it's over. -/
abbrev RoundV := List (Int × Int) × Bool
/-- One listener at a node. -/
def atStep (id : Int) (c : Bool) (k : Nat) (e : LisV) (fit : List Int) (s : RoundV) : RoundV := if (e.2.1 == c) && fit.any (fun y => decide (y = id)) then (s.1 ++ [((k : Int), id)], s.2 || e.2.2) else s
def atM (ls : List LisV) (fits : List (List Int)) (id : Int) (c : Bool) : Nat → RoundV → RoundV
  | 0, s => s
  | k + 1, s => atStep id c k (ls.getD k ([], false, false)) (fits.getD k []) (atM ls fits id c k s)
theorem atM_len (ls : List LisV) (fits : List (List Int)) (id : Int) (c : Bool) (s : RoundV) : ∀ k, (atM ls fits id c k s).1.length ≤ s.1.length + k
  | 0 => Nat.le_refl _
  | k + 1 => by
    have := atM_len ls fits id c s k
    unfold atM atStep
    split
    · rw [List.length_append]; show _ + 1 ≤ _; omega
    · omega
theorem atM_yes {ls : List LisV} {fits : List (List Int)} {id : Int} {c : Bool} {k : Nat} {s : RoundV} (h : k < ls.length) (hf : k < fits.length) (h1 : (ls[k].2.1 == c) = true) (h2 : (fits[k].any fun y => decide (y = id)) = true) : atM ls fits id c (k + 1) s = ((atM ls fits id c k s).1 ++ [((k : Int), id)], (atM ls fits id c k s).2 || ls[k].2.2) := by
  have e1 : ls.getD k ([], false, false) = ls[k] := by rw [List.getD_eq_getElem?_getD, List.getElem?_eq_getElem h]; rfl
  have e2 : fits.getD k [] = fits[k] := by rw [List.getD_eq_getElem?_getD, List.getElem?_eq_getElem hf]; rfl
  show atStep id c k (ls.getD k ([], false, false)) (fits.getD k []) (atM ls fits id c k s) = _
  rw [e1, e2]; unfold atStep; rw [h1, h2]; exact if_pos rfl
theorem atM_no1 {ls : List LisV} {fits : List (List Int)} {id : Int} {c : Bool} {k : Nat} {s : RoundV} (h : k < ls.length) (h1 : (ls[k].2.1 == c) = false) : atM ls fits id c (k + 1) s = atM ls fits id c k s := by
  have e1 : ls.getD k ([], false, false) = ls[k] := by rw [List.getD_eq_getElem?_getD, List.getElem?_eq_getElem h]; rfl
  show atStep id c k (ls.getD k ([], false, false)) (fits.getD k []) (atM ls fits id c k s) = _
  rw [e1]; unfold atStep; rw [h1]; exact if_neg (by simp)
theorem atM_no2 {ls : List LisV} {fits : List (List Int)} {id : Int} {c : Bool} {k : Nat} {s : RoundV} (hf : k < fits.length) (h2 : (fits[k].any fun y => decide (y = id)) = false) : atM ls fits id c (k + 1) s = atM ls fits id c k s := by
  have e2 : fits.getD k [] = fits[k] := by rw [List.getD_eq_getElem?_getD, List.getElem?_eq_getElem hf]; rfl
  show atStep id c k (ls.getD k ([], false, false)) (fits.getD k []) (atM ls fits id c k s) = _
  rw [e2]; unfold atStep; rw [h2, Bool.and_false]; exact if_neg (by simp)
set_option maxHeartbeats 1000000 in
theorem f25s (id kind : Int) (tag text : ByteArray) (cl : List ByteArray) (at' : List (ByteArray × ByteArray)) (st : List (ByteArray × Int)) (ks : List (List D)) (way : List Int) (x : Int) (bi bo : Nat) (o : Option (List Int)) : Fc Tryz.prog 25 [.g (nodeC id kind tag text cl at' st ks), L_ 1 (ints way), P_ bi 0, P_ bo 0] [.blk bo 49 [outC o], .blk bi 3 [.d (.i .i64 x)]] (fun y Ω => y = aB (!decide (id = x)) ∧ Ω = [.blk bo 49 [outC (if id = x then some way else o)], .blk bi 3 [.d (.i .i64 x)]]) := by
  refine Fc.enter Tryz.func25 rfl Tryz.ntmps25 rfl fun X w => ?_
  refine T.rg ?_
  refine L.box rfl rfl fun b4 => ?_
  refine L.as rfl rfl ?_
  refine L.nil ?_
  refine T.of_seq ?_
  refine T.rg ?_
  refine L.fa Tryz.underlying32 rfl s3 rfl rfl ?_
  refine L.ld 0 o3 rfl rfl rfl rfl ?_
  refine L.ld 2 o3 rfl rfl rfl rfl ?_
  refine L.cmp rfl rfl rfl rfl ?_
  refine L.nil ?_
  refine T.cond rfl (fun h10 => ?_) (fun h10 => ?_)
  · skip
    have he : id = x := by simpa using h10
    refine T.region ?_
    refine L.mv rfl rfl ?_
    refine L.sto 1 s49 rfl rfl rfl rfl rfl ?_
    refine L.last ?_
    refine T.go (fun _ _ h => h) ?_
    refine T.rg ?_
    refine L.fa Tryz.underlying32 rfl s3 rfl rfl ?_
    refine L.ld 0 o3 rfl rfl rfl rfl ?_
    refine L.ld 2 o3 rfl rfl rfl rfl ?_
    refine L.cmp rfl rfl rfl rfl ?_
    refine L.as rfl rfl ?_
    refine L.nil ?_
    refine T.ret ?_
    refine G.conv (drop_at (i := 0) rfl rfl) ?_
    exact G.ret (res1 Tryz.results25 rfl) ⟨rfl, by rw [if_pos he]; rfl⟩
  · skip
    have he : ¬ id = x := by simpa using h10
    refine T.skip ?_
    refine T.go (fun _ _ h => h) ?_
    refine T.rg ?_
    refine L.fa Tryz.underlying32 rfl s3 rfl rfl ?_
    refine L.ld 0 o3 rfl rfl rfl rfl ?_
    refine L.ld 2 o3 rfl rfl rfl rfl ?_
    refine L.cmp rfl rfl rfl rfl ?_
    refine L.as rfl rfl ?_
    refine L.nil ?_
    refine T.ret ?_
    refine G.conv (drop_at (i := 0) rfl rfl) ?_
    exact G.ret (res1 Tryz.results25 rfl) ⟨rfl, by rw [if_neg he]⟩

theorem f25 (x : Int) (bi bo : Nat) (t : Tr) (way : List Int) (o : Option (List Int)) : Fc Tryz.prog 25 ([.g t.cs, L_ 1 (ints way)] ++ capS [.pointer (some ⟨bi, 0, none⟩), .pointer (some ⟨bo, 0, none⟩)]) [.blk bo 49 [outC o], .blk bi 3 [.d (.i .i64 x)]] (fun y Ω => y = aB (visP x t way o).1 ∧ Ω = [.blk bo 49 [outC (visP x t way o).2], .blk bi 3 [.d (.i .i64 x)]]) := by
  cases t with
  | mk id kind tag text cl at' st kids => exact f25s id kind tag text cl at' st (kidsD kids) way x bi bo o

set_option maxHeartbeats 1000000 in
theorem f9 (t : Tr) (hok : t.ok) (hsz : t.size ≤ 1000000) (x : Int) : Fc Tryz.prog 9 [.g t.cs, N_ x] [] (Just (aL 1 (ints (pathM t x)))) := by
  refine Fc.enter Tryz.func9 rfl Tryz.ntmps9 rfl fun X w => ?_
  refine T.rg ?_
  refine L.box rfl rfl fun b2 => ?_
  refine L.box rfl rfl fun b3 => ?_
  refine L.as rfl rfl ?_
  refine L.nil ?_
  refine T.rg ?_
  refine L.alloc z49 rfl rfl fun b5 => ?_
  refine L.nil ?_
  refine T.rg ?_
  refine L.ldg (ys := t.cs) 2 a32 s32 rfl rfl (by rw [List.drop_zero]; exact List.take_of_length_le (by show t.cs.length ≤ 8; rw [Tr.cs_d, List.length_map, Tr.d_len]; exact Nat.le_refl _)) (by rw [Tr.cs_d, List.length_map, Tr.d_len]) rfl ?_
  refine L.mf rfl rfl ?_
  refine L.callO [] [_, _] [_] rfl e24 rfl rfl (Fc.nils [0, 1, 0] rfl (f24 25 [.pointer (some ⟨b3, 0, none⟩), .pointer (some ⟨b5, 0, none⟩)] e25 rfl (fun o => [.blk b5 49 [outC o], .blk b3 3 [.d (.i .i64 x)]]) (visP x) (fun t way s _ _ => f25 x b3 b5 t way s) t.size t (Nat.le_refl _) hok [] (by simpa using hsz) none)) ?_
  rintro _ _ ⟨rfl, rfl⟩
  generalize ho : (hearsM (visP x) t [] none).2 = o
  refine L.nil ?_
  refine T.rg ?_
  have hp : pathM t x = o.getD [] := congrArg (fun z => z.getD []) ho
  clear ho
  refine L.ld 0 o49 rfl rfl rfl rfl ?_
  refine L.as rfl rfl ?_
  refine L.nil ?_
  refine T.ret ?_
  rcases o with _ | l
  · refine G.conv (nil_row 3 1) ?_
    refine G.pub 4 0 rfl rfl rfl ?_
    refine G.conv (drop_at (i := 0) rfl rfl) ?_
    refine G.conv (drop_at (i := 0) rfl rfl) ?_
    refine G.conv (drop_at (i := 0) rfl rfl) ?_
    exact G.ret (res1 Tryz.results9 rfl) ⟨rfl, by rw [hp]; rfl⟩
  refine G.conv (drop_at (i := 0) rfl rfl) ?_
  refine G.conv (drop_at (i := 0) rfl rfl) ?_
  refine G.conv (drop_at (i := 0) rfl rfl) ?_
  refine G.ret (res1 Tryz.results9 rfl) ?_
  refine ⟨rfl, by rw [hp]; rfl⟩

set_option maxHeartbeats 4000000 in
theorem f22 (ls : List LisV) (fits : List (List Int)) (hfl : fits.length = ls.length) (hls : ls.length ≤ 1000) (br : Nat) (v : Value) (id : Int) (c : Bool) (s : RoundV) (hs : s.1.length ≤ 100000000) : Fc Tryz.prog 22 [P_ br 0, N_ id, Bo c] [.row v 57 2 (calS s.1), .blk br 89 [.d (.l 3 (lisS ls)), .d (.l 1 (fitS fits)), .r v, .d (.b s.2)]] (fun x Ω => x = .t [] ∧ ∃ v', Ω = [.row v' 57 2 (calS (atM ls fits id c ls.length s).1), .blk br 89 [.d (.l 3 (lisS ls)), .d (.l 1 (fitS fits)), .r v', .d (.b (atM ls fits id c ls.length s).2)]]) := by
  refine Fc.enter Tryz.func22 rfl Tryz.ntmps22 rfl fun X w => ?_
  refine T.rg ?_
  refine L.mv rfl rfl ?_
  refine L.nilck rfl rfl ?_
  refine L.fa Tryz.underlying89 rfl s43 rfl rfl ?_
  refine L.ld 1 o43 rfl rfl rfl rfl ?_
  refine L.lenL Tryz.underlying43 rfl rfl fun hl12 => ?_
  refine L.mv rfl rfl ?_
  refine L.nil ?_
  refine T.block ?_
  refine T.loop (fun m σ Ω => ∃ (k : Nat) (v : Value), k ≤ ls.length ∧ m = ls.length - k ∧ σ = [(13, aN k), (12, aN (lisS ls).length), (11, aL 3 (lisS ls)), (2, aB c), (1, aN id), (0, aP br 0)] ∧ Ω = [.row v 57 2 (calS (atM ls fits id c k s).1), .blk br 89 [.d (.l 3 (lisS ls)), .d (.l 1 (fitS fits)), .r v, .d (.b (atM ls fits id c k s).2)]]) (ls.length) _ (⟨0, v, Nat.zero_le _, rfl, rfl, rfl⟩) (by repeat constructor) ?_
  rintro m σ Ω ⟨k, v, hk, rfl, rfl, rfl⟩
  have hll := lis_len ls
  have hal := atM_len ls fits id c s k
  refine T.rg ?_
  refine L.cmp rfl rfl rfl rfl ?_
  refine L.nil ?_
  refine T.of_seq ?_
  refine T.cond rfl (fun h14 => ?_) (fun h14 => ?_)
  · skip
    have hlt : k < ls.length := by have := of_decide_eq_true h14; omega
    refine T.skip ?_
    refine T.go (fun _ _ h => h) ?_
    refine T.of_seq ?_
    refine T.block ?_
    refine T.rg ?_
    refine L.mv rfl rfl ?_
    refine L.ixL k _ Tryz.underlying43 s54 rfl rfl rfl (lis_get hlt) rfl ?_
    refine L.lig a54 s54 rfl rfl rfl rfl ?_
    refine L.alloc z54 rfl rfl fun b7 => ?_
    refine L.as rfl rfl ?_
    refine L.stog 0 s54 rfl rfl rfl rfl rfl rfl ?_
    refine L.nil ?_
    refine T.rg ?_
    refine L.fa Tryz.underlying54 rfl s4 rfl rfl ?_
    refine L.ld 0 o4 rfl rfl rfl rfl ?_
    refine L.mv rfl rfl ?_
    refine L.eqBB Tryz.underlying4 rfl rfl rfl ?_
    refine L.mv rfl rfl ?_
    refine L.caseB 22 rfl (fun h22 => ?_) (fun h22 => ?_)
    · skip
      refine L.on rfl rfl ?_
      refine L.mv rfl rfl ?_
      refine L.on rfl rfl ?_
      refine L.nilck rfl rfl ?_
      refine L.on rfl rfl ?_
      refine L.fa Tryz.underlying89 rfl s87 rfl rfl ?_
      refine L.on rfl rfl ?_
      refine L.ld 2 o87 rfl rfl rfl rfl ?_
      refine L.on rfl rfl ?_
      refine L.mv rfl rfl ?_
      refine L.on rfl rfl ?_
      refine L.ixL k _ Tryz.underlying87 s49 rfl rfl rfl (fit_get (by omega)) rfl ?_
      refine L.on rfl rfl ?_
      refine L.li o49 rfl rfl ?_
      refine L.on rfl rfl ?_
      refine L.mv rfl rfl ?_
      refine L.on rfl rfl ?_
      refine L.call e41 rfl rfl (f41 (fits[k]'(by omega)) id) ?_
      rintro _ _ ⟨rfl, rfl⟩
      refine L.pkT rfl rfl rfl ?_
      refine L.nil ?_
      refine T.cond rfl (fun h32 => ?_) (fun h32 => ?_)
      · skip
        refine T.rg ?_
        refine L.mv rfl rfl ?_
        refine L.mv rfl rfl ?_
        refine L.nilck rfl rfl ?_
        refine L.fa Tryz.underlying89 rfl s47 rfl rfl ?_
        refine L.ld 2 o47 rfl rfl rfl rfl ?_
        refine L.mv rfl rfl ?_
        refine L.mv rfl rfl ?_
        refine L.bld p57 z57 rfl rfl rfl rfl rfl ?_
        refine L.bsD rfl Tryz.underlying47 i57 rfl rfl rfl rfl rfl ?_
        refine L.app 1 Tryz.underlying47 i57 rfl rfl rfl rfl rfl (by rw [cal_len]; simp; omega) (by rw [cal_len]; simp; omega) rfl (fun _ => rfl) fun v42 => ?_
        refine L.nilck rfl rfl ?_
        refine L.fa Tryz.underlying89 rfl s47 rfl rfl ?_
        refine L.sto 2 s47 rfl rfl rfl rfl rfl ?_
        refine L.nil ?_
        refine T.region ?_
        refine L.mv rfl rfl ?_
        refine L.mv rfl rfl ?_
        refine L.nilck rfl rfl ?_
        refine L.fa Tryz.underlying89 rfl s4 rfl rfl ?_
        refine L.ld 2 o4 rfl rfl rfl rfl ?_
        refine L.mv rfl rfl ?_
        refine L.caseB 50 rfl (fun h50 => ?_) (fun h50 => ?_)
        · skip
          have hst : (atM ls fits id c k s).2 = true := h50
          refine L.off rfl rfl rfl rfl ?_
          refine L.off rfl rfl rfl rfl ?_
          refine L.pkT rfl rfl rfl ?_
          refine L.nilck rfl rfl ?_
          refine L.fa Tryz.underlying89 rfl s4 rfl rfl ?_
          refine L.sto 2 s4 rfl rfl rfl rfl rfl ?_
          refine L.last ?_
          refine T.go (fun _ _ h => h) ?_
          refine T.region ?_
          refine L.ar ((k + 1 : Nat) : Int) rfl rfl rfl (by omega) rfl ?_
          refine L.mv rfl rfl ?_
          refine L.last ?_
          refine G.conv (drop_at (i := 0) rfl rfl) ?_
          refine G.round (ls.length - (k + 1)) _ (by omega) ⟨k + 1, v42, by omega, rfl, rfl, by rw [atM_yes hlt (by omega) h22 h32, cal_snoc]; simp only [hst]; rfl⟩ (by repeat constructor)
        · skip
          have hst : (atM ls fits id c k s).2 = false := h50
          refine L.on rfl rfl ?_
          refine L.fa Tryz.underlying54 rfl s4 rfl rfl ?_
          refine L.on rfl rfl ?_
          refine L.ld 0 o4 rfl rfl rfl rfl ?_
          refine L.pkF rfl rfl rfl ?_
          refine L.nilck rfl rfl ?_
          refine L.fa Tryz.underlying89 rfl s4 rfl rfl ?_
          refine L.sto 2 s4 rfl rfl rfl rfl rfl ?_
          refine L.last ?_
          refine T.go (fun _ _ h => h) ?_
          refine T.region ?_
          refine L.ar ((k + 1 : Nat) : Int) rfl rfl rfl (by omega) rfl ?_
          refine L.mv rfl rfl ?_
          refine L.last ?_
          refine G.conv (drop_at (i := 0) rfl rfl) ?_
          refine G.round (ls.length - (k + 1)) _ (by omega) ⟨k + 1, v42, by omega, rfl, rfl, by rw [atM_yes hlt (by omega) h22 h32, cal_snoc]; simp only [hst]; rfl⟩ (by repeat constructor)
      · skip
        refine T.skip ?_
        refine T.go (fun _ _ h => h) ?_
        refine T.region ?_
        refine L.ar ((k + 1 : Nat) : Int) rfl rfl rfl (by omega) rfl ?_
        refine L.mv rfl rfl ?_
        refine L.last ?_
        refine G.conv (drop_at (i := 0) rfl rfl) ?_
        refine G.round (ls.length - (k + 1)) _ (by omega) ⟨k + 1, v, by omega, rfl, rfl, by rw [atM_no2 (by omega) h32]⟩ (by repeat constructor)
    · skip
      refine L.off rfl rfl rfl rfl ?_
      refine L.off rfl rfl rfl rfl ?_
      refine L.off rfl rfl rfl rfl ?_
      refine L.off rfl rfl rfl rfl ?_
      refine L.off rfl rfl rfl rfl ?_
      refine L.off rfl rfl rfl rfl ?_
      refine L.off rfl rfl rfl rfl ?_
      refine L.off rfl rfl rfl rfl ?_
      refine L.off rfl rfl rfl rfl ?_
      refine L.pkF rfl rfl rfl ?_
      refine L.nil ?_
      refine T.condF rfl ?_
      refine T.skip ?_
      refine T.go (fun _ _ h => h) ?_
      refine T.region ?_
      refine L.ar ((k + 1 : Nat) : Int) rfl rfl rfl (by omega) rfl ?_
      refine L.mv rfl rfl ?_
      refine L.last ?_
      refine G.conv (drop_at (i := 0) rfl rfl) ?_
      refine G.round (ls.length - (k + 1)) _ (by omega) ⟨k + 1, v, by omega, rfl, rfl, by rw [atM_no1 hlt h22]⟩ (by repeat constructor)
  · skip
    have hge : k = ls.length := by have := of_decide_eq_false h14; omega
    subst hge
    refine T.exit ?_
    exact G.end (res0 Tryz.results22) ⟨rfl, v, rfl⟩

set_option maxHeartbeats 400000 in
theorem f23 (l : List Int) : Fc Tryz.prog 23 [L_ 1 (ints l)] [] (fun x Ω => ∃ b, x = aR (.func (.func 42) #[] #[.pointer (some ⟨b, 0, none⟩)]) ∧ Ω = [.blk b 49 [.d (.l 1 (ints l))]]) := by
  refine Fc.enter Tryz.func23 rfl Tryz.ntmps23 rfl fun X w => ?_
  refine T.rg ?_
  refine L.box rfl rfl fun b1 => ?_
  refine L.as rfl rfl ?_
  refine L.nil ?_
  refine T.rg ?_
  refine L.mf rfl rfl ?_
  refine L.as rfl rfl ?_
  refine L.nil ?_
  refine T.ret ?_
  exact G.ret (res1 Tryz.results23 rfl) ⟨b1, rfl, rfl⟩

set_option maxHeartbeats 1000000 in
theorem f42s (l : List Int) (hl : l.length ≤ 1000000) (b lp : Nat) (yd : List (Value × Go.Q.D)) (J : Nat → List Ob → Prop) (Jx : List Ob → Prop) (hy : ∀ k Ωb, k < l.length → J k Ωb → YFc Tryz.prog lp yd [N_ ((l.length - 1 - k : Nat) : Int), N_ (l.getD (l.length - 1 - k) 0)] Ωb (fun x Ωb2 => (x = aB true ∧ J (k + 1) Ωb2) ∨ (x = aB false ∧ Jx Ωb2))) (Ωb : List Ob) (h0 : J 0 Ωb) : Fc Tryz.prog 42 [.c (.y lp yd), P_ b 0] (.blk b 49 [.d (.l 1 (ints l))] :: Ωb) (fun _ Ω => ∃ Ωb2, Ω = .blk b 49 [.d (.l 1 (ints l))] :: Ωb2 ∧ (J l.length Ωb2 ∨ Jx Ωb2)) := by
  refine Fc.enter Tryz.func42 rfl Tryz.ntmps42 rfl fun X w => ?_
  refine T.rg ?_
  refine L.ld 0 o49 rfl rfl rfl rfl ?_
  refine L.lenL Tryz.underlying49 rfl rfl fun hl5 => ?_
  rw [ints_len]
  refine L.ar ((l.length : Int) - 1) rfl rfl rfl (by omega) rfl ?_
  refine L.as rfl rfl ?_
  refine L.nil ?_
  refine T.block ?_
  refine T.loop (fun m σ Ω => ∃ (k : Nat) (z : Int) (Ωb : List Ob), k ≤ l.length ∧ m = l.length - k ∧ z = (l.length : Int) - 1 - k ∧ J k Ωb ∧ σ = [(3, aN z), (1, aP b 0), (0, .v (.c (.y lp yd)))] ∧ Ω = .blk b 49 [.d (.l 1 (ints l))] :: Ωb) (l.length) _ (⟨0, (l.length : Int) - 1, Ωb, Nat.zero_le _, rfl, by omega, h0, rfl, rfl⟩) (by repeat constructor) ?_
  rintro m σ Ω ⟨k, z, Ωb, hk, rfl, hz, hJ, rfl, rfl⟩
  refine T.of_seq ?_
  refine T.rg ?_
  refine L.mv rfl rfl ?_
  refine L.cmp rfl rfl rfl rfl ?_
  refine L.nil ?_
  refine T.cond rfl (fun h8 => ?_) (fun h8 => ?_)
  · skip
    have hlt : k < l.length := by have := of_decide_eq_true h8; omega
    have hzn : z = ((l.length - 1 - k : Nat) : Int) := by omega
    have hgd : l.getD (l.length - 1 - k) 0 = l[l.length - 1 - k] := by rw [List.getD_eq_getElem?_getD, List.getElem?_eq_getElem (by omega)]; rfl
    subst hzn
    refine T.skip ?_
    refine T.go (fun _ _ h => h) ?_
    refine T.of_seq ?_
    refine T.block ?_
    refine T.rg ?_
    refine L.mv rfl rfl ?_
    refine L.mv rfl rfl ?_
    refine L.ld 0 o49 rfl rfl rfl rfl ?_
    refine L.mv rfl rfl ?_
    refine L.ixL (l.length - 1 - k) [D.i .i64 (l.getD (l.length - 1 - k) 0)] Tryz.underlying49 s3 rfl rfl rfl (by rw [hgd]; exact ints_get (by omega)) rfl ?_
    refine L.li o3 rfl rfl ?_
    refine L.callY [.blk b 49 [.d (.l 1 (ints l))]] Ωb [] (by simp) rfl rfl rfl (hy k Ωb hlt hJ) ?_
    rintro _ Ω2 (⟨rfl, hJ2⟩ | ⟨rfl, hJ2⟩)
    · skip
      simp only [List.cons_append, List.nil_append, List.append_nil]
      skip
      refine L.not rfl rfl ?_
      refine L.nil ?_
      refine T.cond rfl (fun h18 => ?_) (fun h18 => ?_)
      · skip
        cases h18
      · skip
        refine T.skip ?_
        refine T.go (fun _ _ h => h) ?_
        refine T.region ?_
        refine L.mv rfl rfl ?_
        refine L.ar (((l.length - 1 - k : Nat) : Int) - 1) rfl rfl rfl (by omega) rfl ?_
        refine L.as rfl rfl ?_
        refine L.last ?_
        refine G.round (l.length - (k + 1)) _ (by omega) ⟨k + 1, ((l.length - 1 - k : Nat) : Int) - 1, _, by omega, rfl, by omega, hJ2, rfl, rfl⟩ (by repeat constructor)
    · skip
      simp only [List.cons_append, List.nil_append, List.append_nil]
      skip
      refine L.not rfl rfl ?_
      refine L.nil ?_
      refine T.cond rfl (fun h18 => ?_) (fun h18 => ?_)
      · skip
        refine T.ret ?_
        exact G.ret (res0 Tryz.results42) ⟨Ω2, rfl, .inr hJ2⟩
      · skip
        cases h18
  · skip
    have hge : k = l.length := by have := of_decide_eq_false h8; omega
    subst hge
    refine T.exit ?_
    exact G.end (res0 Tryz.results42) ⟨Ωb, rfl, .inl hJ⟩

theorem iter42 (l : List Int) (hl : l.length ≤ 1000000) (b : Nat) : Iter Tryz.prog 42 (capS [.pointer (some ⟨b, 0, none⟩)]) [.blk b 49 [.d (.l 1 (ints l))]] l.length (fun k => [N_ ((l.length - 1 - k : Nat) : Int), N_ (l.getD (l.length - 1 - k) 0)]) :=
  fun lp yd J Jx hy Ωb h0 => f42s l hl b lp yd J Jx hy Ωb h0
end Go.Proofs.YtimimkdgofiloaaGreat
