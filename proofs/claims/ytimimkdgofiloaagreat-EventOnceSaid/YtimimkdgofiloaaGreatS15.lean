/- The program's way down a tree. Printed by gen.py. -/
import Derived.Test.YtimimkdgofiloaaGreatS13
import Derived.Test.YtimimkdgofiloaaGreatS7
import Derived.Test.YtimimkdgofiloaaGreatQp
import Derived.Test.YtimimkdgofiloaaGreatDg
namespace Go.Proofs.YtimimkdgofiloaaGreat
open Go Go.Q
set_option maxHeartbeats 400000 in
theorem f46 (l : List Bool) (hlen : l.length ≤ 1000) : Fc Tryz.prog 46 [L_ 1 (bools l)] [] (fun x Ω => ∃ v, x = aR v ∧ Ω = [.row v 4 1 (bools l)]) := by
  refine Fc.enter Tryz.func46 rfl Tryz.ntmps46 rfl fun X w => ?_
  refine T.rg ?_
  refine L.as rfl rfl ?_
  refine L.nil ?_
  refine T.of_seq ?_
  refine T.rg ?_
  refine L.mv rfl rfl ?_
  refine L.eqNil Tryz.underlying99 rfl rfl fun b hb => ?_
  refine L.nil ?_
  refine T.cond rfl (fun h4 => ?_) (fun h4 => ?_)
  · skip
    have hes : bools l = [] := hb h4
    refine T.rg ?_
    refine L.as rfl rfl ?_
    refine L.nil ?_
    refine T.ret ?_
    refine G.conv (nil_row 4 1) ?_
    exact G.ret (res1 Tryz.results46 rfl) ⟨_, rfl, by rw [hes]⟩
  · skip
    refine T.skip ?_
    refine T.go (fun _ _ h => h) ?_
    refine T.rg ?_
    refine L.bsR rfl Tryz.underlying99 i4 rfl rfl rfl rfl rfl fun b5 => ?_
    refine L.mv rfl rfl ?_
    refine L.app 0 Tryz.underlying99 i4 rfl rfl rfl rfl rfl (by simp; omega) (by simp; omega) rfl (fun _ => rfl) fun v7 => ?_
    refine L.as rfl rfl ?_
    refine L.nil ?_
    refine T.ret ?_
    exact G.ret (res1 Tryz.results46 rfl) ⟨_, rfl, rfl⟩

abbrev wk (b : Nat) (ps : List SPart) (v : Value) (out : List Int) : List Ob := [.row v 3 1 (ints out), .blk b 98 [.d (.l 4 (sel ps)), .r v]]
theorem sel_get {l : List SPart} {k : Nat} (h : k < l.length) : (sel l)[k]? = some l[k].d := by simp [sel, h]

set_option maxHeartbeats 8000000 in
theorem f26s (ps : List SPart) (hps : ps.length ≤ 500) (id kind : Int) (tag text : ByteArray) (cl : List ByteArray) (at' : List (ByteArray × ByteArray)) (st : List (ByteArray × Int)) (kids : List Tr) (hsrt : Srt at') (hal : at'.length ≤ 900) (par abv : List Bool) (hpar : par.length = ps.length) (habv : abv.length = ps.length) (b : Nat) (v : Value) (out : List Int) (hsz : out.length + (kidsSize kids + 1) ≤ 1000000) (ih : ∀ (k : Nat) (h : k < kids.length) (par abv : List Bool) (v : Value) (out : List Int), par.length = ps.length → abv.length = ps.length → out.length + kids[k].size ≤ 1000000 → Fc Tryz.prog 26 [P_ b 0, .g kids[k].cs, L_ 1 (bools par), L_ 1 (bools abv)] (wk b ps v out) (fun x Ω => x = .t [] ∧ ∃ v', Ω = wk b ps v' (out ++ downM ps kids[k] par abv))) : Fc Tryz.prog 26 [P_ b 0, .g (nodeC id kind tag text cl at' st (kidsD kids)), L_ 1 (bools par), L_ 1 (bools abv)] (wk b ps v out) (fun x Ω => x = .t [] ∧ ∃ v', Ω = wk b ps v' (out ++ downM ps (.mk id kind tag text cl at' st kids) par abv)) := by
  refine Fc.enter Tryz.func26 rfl Tryz.ntmps26 rfl fun X w => ?_
  refine T.rg ?_
  refine L.box rfl rfl fun b5 => ?_
  refine L.nil ?_
  refine T.rg ?_
  refine L.mv rfl rfl ?_
  refine L.nilck rfl rfl ?_
  refine L.fa Tryz.underlying98 rfl s52 rfl rfl ?_
  refine L.ld 2 o52 rfl rfl rfl rfl ?_
  refine L.lenL Tryz.underlying52 rfl rfl fun hl22 => ?_
  rw [sel_len]
  refine L.mk (zd := .b false) Tryz.underlying99 i4 rfl rfl rfl rfl (by omega) (by omega) rfl fun g => ?_
  refine L.as rfl rfl ?_
  refine L.nil ?_
  refine T.of_seq ?_
  refine T.rg ?_
  refine L.mv rfl rfl ?_
  refine L.nilck rfl rfl ?_
  refine L.fa Tryz.underlying98 rfl s52 rfl rfl ?_
  refine L.ld 3 o52 rfl rfl rfl rfl ?_
  refine L.lenL Tryz.underlying52 rfl rfl fun hl28 => ?_
  rw [sel_len]
  refine L.mv rfl rfl ?_
  refine L.nil ?_
  refine T.block ?_
  refine T.loop (fun m σ Ω => ∃ (i : Nat) (Lh : List Bool), i ≤ ps.length ∧ m = ps.length - i ∧ Upto Lh (hereB ps (.mk id kind tag text cl at' st kids) par abv) i ∧ σ = [(29, aN i), (28, aN ps.length), (27, aL 4 (sel ps)), (8, aR (slV g 0 ps.length ps.length)), (5, aP b5 0), (3, aL 1 (bools abv)), (2, aL 1 (bools par)), (0, aP b 0)] ∧ Ω = [.row (slV g 0 ps.length ps.length) 4 1 (bools Lh), .blk b5 32 (nodeC id kind tag text cl at' st (kidsD kids)), .row v 3 1 (ints out), .blk b 98 [.d (.l 4 (sel ps)), .r v]]) (ps.length) _ (⟨0, List.replicate ps.length false, Nat.zero_le _, rfl, ⟨by rw [List.length_replicate, hereB_len], fun k hk => absurd hk (Nat.not_lt_zero _)⟩, rfl, congrArg (fun z => [Ob.row _ 4 1 z, _, _, _]) (by simp [bools])⟩) (by repeat constructor) ?_
  rintro m σ Ω ⟨i, Lh, hi, rfl, hU, rfl, rfl⟩
  refine T.rg ?_
  refine L.cmp rfl rfl rfl rfl ?_
  refine L.nil ?_
  refine T.of_seq ?_
  refine T.cond rfl (fun h30 => ?_) (fun h30 => ?_)
  · skip
    have hlt : i < ps.length := by simpa using h30
    have hLl : Lh.length = ps.length := by rw [hU.1, hereB_len]
    refine T.skip ?_
    refine T.go (fun _ _ h => h) ?_
    refine T.of_seq ?_
    refine T.block ?_
    refine T.rg ?_
    refine L.mv rfl rfl ?_
    refine L.ixL i _ Tryz.underlying52 s62 rfl rfl rfl (sel_get hlt) rfl ?_
    refine L.lig a62 s62 rfl rfl rfl rfl ?_
    refine L.alloc z62 rfl rfl fun b10 => ?_
    refine L.as rfl rfl ?_
    refine L.stog 0 s62 rfl rfl rfl rfl rfl rfl ?_
    refine L.nil ?_
    refine T.rg ?_
    refine L.mv rfl rfl ?_
    refine L.cmp rfl rfl rfl rfl ?_
    refine L.as rfl rfl ?_
    refine L.nil ?_
    refine T.cut (fun σ Ω => ∃ ah : Bool, ah = aheadB ps par abv i ∧ σ = [(11, aB ah), (10, aP b10 0), (9, aN i), (29, aN i), (28, aN ps.length), (27, aL 4 (sel ps)), (8, aR (slV g 0 ps.length ps.length)), (5, aP b5 0), (3, aL 1 (bools abv)), (2, aL 1 (bools par)), (0, aP b 0)] ∧ Ω = [.blk b10 62 ps[i].cs, .row (slV g 0 ps.length ps.length) 4 1 (bools Lh), .blk b5 32 (nodeC id kind tag text cl at' st (kidsD kids)), .row v 3 1 (ints out), .blk b 98 [.d (.l 4 (sel ps)), .r v]]) ?_ ?_
    · rintro σ Ω ⟨ah, hah, rfl, rfl⟩
      refine T.region ?_
      refine L.mv rfl rfl ?_
      refine L.mv rfl rfl ?_
      refine L.mv rfl rfl ?_
      refine L.mv rfl rfl ?_
      refine L.caseB 53 rfl (fun h53 => ?_) (fun h53 => ?_)
      · skip
        refine L.on rfl rfl ?_
        refine L.ldg 0 a62 s62 rfl rfl rfl rfl rfl ?_
        refine L.on rfl rfl ?_
        refine L.ldg 2 a32 s32 rfl rfl rfl rfl rfl ?_
        refine L.on rfl rfl ?_
        refine L.call e45 rfl rfl (f45 ps[i] id kind tag text cl at' st (kidsD kids) hsrt hal) ?_
        rintro _ _ ⟨rfl, rfl⟩
        refine L.pkT rfl rfl rfl ?_
        refine L.ixR i Tryz.underlying99 s4 rfl rfl rfl hlt rfl ?_
        refine L.stR (i := 1) s4 rfl rfl rfl (by simp; omega) rfl ?_
        refine L.last ?_
        refine T.go (fun _ _ h => h) ?_
        refine T.region ?_
        refine L.ar ((i + 1 : Nat) : Int) rfl rfl rfl (by omega) rfl ?_
        refine L.mv rfl rfl ?_
        refine L.last ?_
        refine G.conv (drop_at (i := 0) rfl rfl) ?_
        refine G.round (ps.length - (i + 1)) _ (by omega) ⟨i + 1, Lh.set i (fitsB kind tag cl at' ps[i]), by omega, rfl, hU.step (by rw [hereB_get ps _ par abv hlt, ← hah, h53]; rfl), rfl, by rw [← bools_set]⟩ (by repeat constructor)
      · skip
        refine L.off rfl rfl rfl rfl ?_
        refine L.off rfl rfl rfl rfl ?_
        refine L.off rfl rfl rfl rfl ?_
        refine L.pkF rfl rfl rfl ?_
        refine L.ixR i Tryz.underlying99 s4 rfl rfl rfl hlt rfl ?_
        refine L.stR (i := 1) s4 rfl rfl rfl (by simp; omega) rfl ?_
        refine L.last ?_
        refine T.go (fun _ _ h => h) ?_
        refine T.region ?_
        refine L.ar ((i + 1 : Nat) : Int) rfl rfl rfl (by omega) rfl ?_
        refine L.mv rfl rfl ?_
        refine L.last ?_
        refine G.conv (drop_at (i := 0) rfl rfl) ?_
        refine G.round (ps.length - (i + 1)) _ (by omega) ⟨i + 1, Lh.set i (false), by omega, rfl, hU.step (by rw [hereB_get ps _ par abv hlt, ← hah, h53]; rfl), rfl, by rw [← bools_set]⟩ (by repeat constructor)
    · skip
      refine T.rg ?_
      refine L.mv rfl rfl ?_
      refine L.cmp rfl rfl rfl rfl ?_
      refine L.nil ?_
      refine T.cond rfl (fun h37 => ?_) (fun h37 => ?_)
      · skip
        have hpos : 0 < i := by simpa using h37
        refine T.rg ?_
        refine L.mv rfl rfl ?_
        refine L.mv rfl rfl ?_
        refine L.ar ((i - 1 : Nat) : Int) rfl rfl rfl (by omega) rfl ?_
        refine L.ixL (i - 1) _ Tryz.underlying99 s4 rfl rfl rfl (bools_get (by omega)) rfl ?_
        refine L.li o4 rfl rfl ?_
        refine L.as rfl rfl ?_
        refine L.nil ?_
        refine T.rg ?_
        refine L.fa Tryz.underlying62 rfl s4 rfl rfl ?_
        refine L.ld 0 o4 rfl rfl rfl rfl ?_
        refine L.nil ?_
        refine T.cond rfl (fun h44 => ?_) (fun h44 => ?_)
        · skip
          refine T.region ?_
          refine L.mv rfl rfl ?_
          refine L.mv rfl rfl ?_
          refine L.ar ((i - 1 : Nat) : Int) rfl rfl rfl (by omega) rfl ?_
          refine L.ixL (i - 1) _ Tryz.underlying99 s4 rfl rfl rfl (bools_get (by omega)) rfl ?_
          refine L.li o4 rfl rfl ?_
          refine L.as rfl rfl ?_
          refine L.last ?_
          exact G.cut [(11, aB (par[i - 1])), (10, aP b10 0), (9, aN i), (29, aN i), (28, aN ps.length), (27, aL 4 (sel ps)), (8, aR (slV g 0 ps.length ps.length)), (5, aP b5 0), (3, aL 1 (bools abv)), (2, aL 1 (bools par)), (0, aP b 0)] ⟨_, by unfold aheadB; rw [if_neg (by omega)]; have hg : ps.getD i noP = ps[i] := (by rw [List.getD_eq_getElem?_getD, List.getElem?_eq_getElem hlt]; rfl); rw [hg, if_pos h44, List.getD_eq_getElem?_getD, List.getElem?_eq_getElem (by omega)]; rfl, rfl, rfl⟩ (by repeat constructor)
        · skip
          refine T.skip ?_
          exact G.cut [(11, aB (abv[i - 1])), (10, aP b10 0), (9, aN i), (29, aN i), (28, aN ps.length), (27, aL 4 (sel ps)), (8, aR (slV g 0 ps.length ps.length)), (5, aP b5 0), (3, aL 1 (bools abv)), (2, aL 1 (bools par)), (0, aP b 0)] ⟨_, by unfold aheadB; rw [if_neg (by omega)]; have hg : ps.getD i noP = ps[i] := (by rw [List.getD_eq_getElem?_getD, List.getElem?_eq_getElem hlt]; rfl); rw [hg, if_neg (by rw [h44]; decide), List.getD_eq_getElem?_getD, List.getElem?_eq_getElem (by omega)]; rfl, rfl, rfl⟩ (by repeat constructor)
      · skip
        have h0 : i = 0 := by have : ¬ 0 < i := (by simpa using h37); omega
        refine T.skip ?_
        exact G.cut [(11, aB (((i : Int) == 0))), (10, aP b10 0), (9, aN i), (29, aN i), (28, aN ps.length), (27, aL 4 (sel ps)), (8, aR (slV g 0 ps.length ps.length)), (5, aP b5 0), (3, aL 1 (bools abv)), (2, aL 1 (bools par)), (0, aP b 0)] ⟨_, by unfold aheadB; rw [if_pos h0, h0]; rfl, rfl, rfl⟩ (by repeat constructor)
  · skip
    have hge : ps.length ≤ i := by simpa using h30
    obtain rfl := hU.done (by rw [hereB_len]; exact hge)
    refine T.exit ?_
    refine T.go (fun _ _ h => h) ?_
    refine T.cut (fun σ Ω => ∃ v1, σ = [(8, aR (slV g 0 ps.length ps.length)), (5, aP b5 0), (3, aL 1 (bools abv)), (2, aL 1 (bools par)), (0, aP b 0)] ∧ Ω = [.row (slV g 0 ps.length ps.length) 4 1 (bools (hereB ps (.mk id kind tag text cl at' st kids) par abv)), .blk b5 32 (nodeC id kind tag text cl at' st (kidsD kids)), .row v1 3 1 (ints (out ++ (if (hereB ps (.mk id kind tag text cl at' st kids) par abv).getLast? = some true then [id] else []))), .blk b 98 [.d (.l 4 (sel ps)), .r v1]]) ?_ ?_
    · rintro σ Ω ⟨v1, rfl, rfl⟩
      refine T.rg ?_
      refine L.mv rfl rfl ?_
      refine L.call e46 rfl rfl (f46 abv (by omega)) ?_
      rintro _ _ ⟨vw, rfl, rfl⟩
      refine L.as rfl rfl ?_
      refine L.nil ?_
      refine T.of_seq ?_
      refine T.rg ?_
      refine L.mv rfl rfl ?_
      refine L.lenR (i := 1) Tryz.underlying99 rfl rfl rfl fun hl85 => ?_
      rw [bools_len, hereB_len]
      refine L.mv rfl rfl ?_
      refine L.nil ?_
      refine T.block ?_
      refine T.loop (fun m σ Ω => ∃ (i : Nat) (W : List Bool), i ≤ ps.length ∧ m = ps.length - i ∧ Upto W (withB abv (hereB ps (.mk id kind tag text cl at' st kids) par abv)) i ∧ (∀ k, i ≤ k → W[k]? = abv[k]?) ∧ σ = [(86, aN i), (85, aN ps.length), (84, aR (slV g 0 ps.length ps.length)), (13, aR vw), (8, aR (slV g 0 ps.length ps.length)), (5, aP b5 0), (3, aL 1 (bools abv)), (2, aL 1 (bools par)), (0, aP b 0)] ∧ Ω = [.row vw 4 1 (bools W), .row (slV g 0 ps.length ps.length) 4 1 (bools (hereB ps (.mk id kind tag text cl at' st kids) par abv)), .blk b5 32 (nodeC id kind tag text cl at' st (kidsD kids)), .row v1 3 1 (ints (out ++ (if (hereB ps (.mk id kind tag text cl at' st kids) par abv).getLast? = some true then [id] else []))), .blk b 98 [.d (.l 4 (sel ps)), .r v1]]) (ps.length) _ (⟨0, abv, Nat.zero_le _, rfl, ⟨by rw [withB_len, hereB_len]; omega, fun k hk => absurd hk (Nat.not_lt_zero _)⟩, fun _ _ => rfl, rfl, rfl⟩) (by repeat constructor) ?_
      rintro m σ Ω ⟨i, W, hi, rfl, hU, hrest, rfl, rfl⟩
      have hWl : W.length = ps.length := by rw [hU.1, withB_len, hereB_len]; omega
      refine T.rg ?_
      refine L.cmp rfl rfl rfl rfl ?_
      refine L.nil ?_
      refine T.of_seq ?_
      refine T.cond rfl (fun h87 => ?_) (fun h87 => ?_)
      · skip
        have hlt : i < ps.length := by simpa using h87
        have hlH : i < (hereB ps (.mk id kind tag text cl at' st kids) par abv).length := by rw [hereB_len]; exact hlt
        have hlW : i < W.length := by omega
        have hlA : i < abv.length := by omega
        have hwi : abv[i] = W[i] := by have := hrest i (Nat.le_refl _); rw [List.getElem?_eq_getElem hlW, List.getElem?_eq_getElem hlA] at this; exact (Option.some.inj this).symm
        refine T.skip ?_
        refine T.go (fun _ _ h => h) ?_
        refine T.of_seq ?_
        refine T.block ?_
        refine T.rg ?_
        refine L.mv rfl rfl ?_
        refine L.ixR i Tryz.underlying99 s4 rfl rfl rfl hlt rfl ?_
        refine L.ldR (i := 1) o4 rfl rfl (bools_get hlH) rfl ?_
        refine L.as rfl rfl ?_
        refine L.as rfl rfl ?_
        refine L.nil ?_
        refine T.region ?_
        refine L.rowV 0 rfl (by simp; omega) fun gw cw hvw => ?_
        subst hvw
        refine L.mv rfl rfl ?_
        refine L.mv rfl rfl ?_
        refine L.mv rfl rfl ?_
        refine L.mv rfl rfl ?_
        refine L.ixR i Tryz.underlying99 s4 rfl rfl rfl (by simp; omega) rfl ?_
        refine L.ldR (i := 0) o4 rfl rfl (bools_get hlW) rfl ?_
        refine L.mv rfl rfl ?_
        refine L.caseB 97 rfl (fun h97 => ?_) (fun h97 => ?_)
        · skip
          have hwa : abv[i] = true := by rw [hwi]; exact h97
          refine L.off rfl rfl rfl rfl ?_
          refine L.pkT rfl rfl rfl ?_
          refine L.ixR i Tryz.underlying99 s4 rfl rfl rfl (by simp; omega) rfl ?_
          refine L.stR (i := 0) s4 rfl rfl rfl (by simp; omega) rfl ?_
          refine L.last ?_
          refine T.go (fun _ _ h => h) ?_
          refine T.region ?_
          refine L.ar ((i + 1 : Nat) : Int) rfl rfl rfl (by omega) rfl ?_
          refine L.mv rfl rfl ?_
          refine L.last ?_
          refine G.round (ps.length - (i + 1)) _ (by omega) ⟨i + 1, W.set i (true), by omega, rfl, hU.step (by rw [withB_get (by omega) (by rw [hereB_len]; exact hlt)]; exact congrArg some (by rw [hwa]; rfl)), fun k hk => by rw [List.getElem?_set_ne (by omega)]; exact hrest k (by omega), rfl, by rw [← bools_set]⟩ (by repeat constructor)
        · skip
          have hwa : abv[i] = false := by rw [hwi]; exact h97
          refine L.on rfl rfl ?_
          refine L.mv rfl rfl ?_
          refine L.pkF rfl rfl rfl ?_
          refine L.ixR i Tryz.underlying99 s4 rfl rfl rfl (by simp; omega) rfl ?_
          refine L.stR (i := 0) s4 rfl rfl rfl (by simp; omega) rfl ?_
          refine L.last ?_
          refine T.go (fun _ _ h => h) ?_
          refine T.region ?_
          refine L.ar ((i + 1 : Nat) : Int) rfl rfl rfl (by omega) rfl ?_
          refine L.mv rfl rfl ?_
          refine L.last ?_
          refine G.round (ps.length - (i + 1)) _ (by omega) ⟨i + 1, W.set i ((hereB ps (.mk id kind tag text cl at' st kids) par abv)[i]), by omega, rfl, hU.step (by rw [withB_get (by omega) (by rw [hereB_len]; exact hlt)]; exact congrArg some (by rw [hwa]; rfl)), fun k hk => by rw [List.getElem?_set_ne (by omega)]; exact hrest k (by omega), rfl, by rw [← bools_set]⟩ (by repeat constructor)
      · skip
        have hge : ps.length ≤ i := by simpa using h87
        obtain rfl := hU.done (by rw [withB_len, hereB_len]; omega)
        refine T.exit ?_
        refine T.go (fun _ _ h => h) ?_
        refine T.rg ?_
        refine L.pub 13 0 rfl rfl rfl ?_
        refine L.pub 8 0 rfl rfl rfl ?_
        refine L.fa Tryz.underlying32 rfl s30 rfl rfl ?_
        refine L.ld 0 o30 rfl rfl rfl rfl ?_
        refine L.lenL Tryz.underlying30 rfl rfl fun hl104 => ?_
        refine L.mv rfl rfl ?_
        refine L.nil ?_
        refine T.block ?_
        refine T.loop (fun m σ Ω => ∃ (k : Nat) (v2 : Value), k ≤ kids.length ∧ m = kids.length - k ∧ σ = [(105, aN k), (104, aN (kidsD kids).length), (103, aL 8 (kidsD kids)), (8, aL 1 (bools (hereB ps (.mk id kind tag text cl at' st kids) par abv))), (13, aL 1 (bools (withB abv (hereB ps (.mk id kind tag text cl at' st kids) par abv)))), (5, aP b5 0), (0, aP b 0)] ∧ Ω = [.blk b5 32 (nodeC id kind tag text cl at' st (kidsD kids)), .row v2 3 1 (ints (out ++ (if (hereB ps (.mk id kind tag text cl at' st kids) par abv).getLast? = some true then [id] else []) ++ kidsDown ps (kids.take k) (hereB ps (.mk id kind tag text cl at' st kids) par abv) (withB abv (hereB ps (.mk id kind tag text cl at' st kids) par abv)))), .blk b 98 [.d (.l 4 (sel ps)), .r v2]]) (kids.length) _ (⟨0, v1, Nat.zero_le _, rfl, rfl, by simp [kidsDown]⟩) (by repeat constructor) ?_
        rintro m σ Ω ⟨k, v2, hk, rfl, rfl, rfl⟩
        have hkl := kidsD_len kids
        refine T.rg ?_
        refine L.cmp rfl rfl rfl rfl ?_
        refine L.nil ?_
        refine T.of_seq ?_
        refine T.cond rfl (fun h106 => ?_) (fun h106 => ?_)
        · skip
          have hlt : k < kids.length := by have := of_decide_eq_true h106; omega
          refine T.skip ?_
          refine T.go (fun _ _ h => h) ?_
          refine T.of_seq ?_
          refine T.block ?_
          refine T.rg ?_
          refine L.ixL k _ Tryz.underlying30 s32 rfl rfl rfl (kidsD_get hlt) rfl ?_
          refine L.lig a32 s32 rfl (List.take_of_length_le (by rw [Tr.d_len]; exact Nat.le_refl _)) (Tr.d_len _) rfl ?_
          rw [← Tr.cs_d]
          refine L.alloc z32 rfl rfl fun b17 => ?_
          refine L.stog 0 s32 rfl rfl rfl rfl (by rw [Tr.cs_d, List.length_map, Tr.d_len]; rfl) rfl ?_
          refine L.nil ?_
          refine T.region ?_
          refine L.mv rfl rfl ?_
          refine L.ldg (ys := kids[k].cs) 0 a32 s32 rfl rfl (by rw [List.drop_zero]; exact List.take_of_length_le (by rw [Tr.cs_d, List.length_map, Tr.d_len]; exact Nat.le_refl _)) (by rw [Tr.cs_d, List.length_map, Tr.d_len]) rfl ?_
          refine L.mv rfl rfl ?_
          refine L.mv rfl rfl ?_
          have hks := kidsSize_get hlt
          have hdl := kidsDown_len ps (kids.take k) (hereB ps (.mk id kind tag text cl at' st kids) par abv) (withB abv (hereB ps (.mk id kind tag text cl at' st kids) par abv))
          refine L.callO [_, _] [_, _] [] rfl e26 rfl rfl (ih k hlt (hereB ps (.mk id kind tag text cl at' st kids) par abv) (withB abv (hereB ps (.mk id kind tag text cl at' st kids) par abv)) v2 _ (hereB_len _ _ _ _) (by rw [withB_len, hereB_len]; omega) (by rw [List.length_append, List.length_append]; split <;> simp <;> omega)) ?_
          rintro _ _ ⟨rfl, v3, rfl⟩
          refine L.last ?_
          refine T.go (fun _ _ h => h) ?_
          refine T.region ?_
          refine L.ar ((k + 1 : Nat) : Int) rfl rfl rfl (by omega) rfl ?_
          refine L.mv rfl rfl ?_
          refine L.last ?_
          refine G.conv (drop_at (i := 0) rfl rfl) ?_
          refine G.round (kids.length - (k + 1)) _ (by omega) ⟨k + 1, v3, by omega, rfl, rfl, by rw [kidsDown_take ps _ _ hlt, ← List.append_assoc]; rfl⟩ (by repeat constructor)
        · skip
          have hge : kids.length ≤ k := by have := of_decide_eq_false h106; omega
          refine T.exit ?_
          refine G.conv (drop_at (i := 0) rfl rfl) ?_
          exact G.end (res0 Tryz.results26) ⟨rfl, v2, by rw [List.take_of_length_le hge]; simp only [downM, List.append_assoc]⟩
    · skip
      refine T.rg ?_
      refine L.mv rfl rfl ?_
      refine L.lenR (i := 0) Tryz.underlying99 rfl rfl rfl fun hl61 => ?_
      rw [bools_len, hereB_len]
      refine L.as rfl rfl ?_
      refine L.nil ?_
      refine T.rg ?_
      refine L.mv rfl rfl ?_
      refine L.cmp rfl rfl rfl rfl ?_
      refine L.mv rfl rfl ?_
      refine L.caseB 64 rfl (fun h64 => ?_) (fun h64 => ?_)
      · skip
        have hpos : 0 < ps.length := by simpa using h64
        have hlast : ps.length - 1 < (hereB ps (.mk id kind tag text cl at' st kids) par abv).length := by rw [hereB_len]; omega
        refine L.on rfl rfl ?_
        refine L.mv rfl rfl ?_
        refine L.on rfl rfl ?_
        refine L.mv rfl rfl ?_
        refine L.on rfl rfl ?_
        refine L.ar ((ps.length - 1 : Nat) : Int) rfl rfl rfl (by omega) rfl ?_
        refine L.on rfl rfl ?_
        refine L.ixR (ps.length - 1) Tryz.underlying99 s4 rfl rfl rfl (by omega) rfl ?_
        refine L.on rfl rfl ?_
        refine L.ldR (i := 0) o4 rfl rfl (bools_get hlast) rfl ?_
        refine L.pkT rfl rfl rfl ?_
        refine L.nil ?_
        refine T.cond rfl (fun h70 => ?_) (fun h70 => ?_)
        · skip
          refine T.draw 9 [(8, aR (slV g 0 ps.length ps.length)), (5, aP b5 0), (3, aL 1 (bools abv)), (2, aL 1 (bools par)), (0, aP b 0)] [.row (slV g 0 ps.length ps.length) 4 1 (bools (hereB ps (.mk id kind tag text cl at' st kids) par abv)), .blk b5 32 (nodeC id kind tag text cl at' st (kidsD kids)), .blk b 98 [.d (.l 4 (sel ps)), .r v]] (fun i => if i = 8 then [.row v 3 1 (ints out)] else []) (fun n x _ post => match n with
            | 0 => x = aP b 0 ∧ post = []
            | 1 => x = aP b 0 ∧ post = []
            | 2 => x = aP b 0 ∧ post = []
            | 3 => x = aP b 1 ∧ post = []
            | 4 => x = aR v ∧ post = []
            | 5 => x = aP b5 0 ∧ post = []
            | 6 => x = aN id ∧ post = []
            | 7 => x = aL 1 [[D.i .i64 id]] ∧ post = []
            | 8 => ∃ v', x = aR v' ∧ post = [.row v' 3 1 (ints out ++ [[D.i .i64 id]])]
            | _ => False) hmixed rfl rfl rfl (by repeat constructor) (List.Perm.append_right [_] (List.perm_append_comm (l₁ := [_]) (l₂ := [_, _]))) ⟨?_, ?_, ?_, ?_, ?_, ?_, ?_, ?_, ?_, trivial⟩ ?_
          · intro X posts σ' Ωf hsb hA
            refine L.mv (hsb.get rfl) rfl ?_
            exact L.last (G.fin [] ⟨rfl, rfl⟩ rfl)
          · intro X posts σ' Ωf hsb hA
            refine L.mv (hsb.get rfl) rfl ?_
            exact L.last (G.fin [] ⟨rfl, rfl⟩ rfl)
          · intro X posts σ' Ωf hsb hA
            have l1 : σ'.lookup 72 = some (aP b 0) := (hA 1 rfl).1.trans (congrArg some (hA 1 rfl).2.1)
            refine L.nilck l1 rfl ?_
            exact L.last (G.fin [] ⟨rfl, rfl⟩ rfl)
          · intro X posts σ' Ωf hsb hA
            have l1 : σ'.lookup 73 = some (aP b 0) := (hA 2 rfl).1.trans (congrArg some (hA 2 rfl).2.1)
            refine L.fa Tryz.underlying98 rfl s49 l1 rfl ?_
            exact L.last (G.fin [] ⟨rfl, rfl⟩ rfl)
          · intro X posts σ' Ωf hsb hA
            have l1 : σ'.lookup 74 = some (aP b 1) := (hA 3 rfl).1.trans (congrArg some (hA 3 rfl).2.1)
            refine L.ld 2 o49 l1 rfl rfl rfl ?_
            exact L.last (G.fin [] ⟨rfl, rfl⟩ rfl)
          · intro X posts σ' Ωf hsb hA
            refine L.fa Tryz.underlying32 rfl s3 (hsb.get rfl) rfl ?_
            exact L.last (G.fin [] ⟨rfl, rfl⟩ rfl)
          · intro X posts σ' Ωf hsb hA
            have l1 : σ'.lookup 76 = some (aP b5 0) := (hA 5 rfl).1.trans (congrArg some (hA 5 rfl).2.1)
            refine L.ld 1 o3 l1 rfl rfl rfl ?_
            exact L.last (G.fin [] ⟨rfl, rfl⟩ rfl)
          · intro X posts σ' Ωf hsb hA
            have l1 : σ'.lookup 77 = some (aN id) := (hA 6 rfl).1.trans (congrArg some (hA 6 rfl).2.1)
            refine L.bsD rfl Tryz.underlying49 i3 rfl rfl (evp1 l1) rfl rfl ?_
            exact L.last (G.fin [] ⟨rfl, rfl⟩ rfl)
          · intro X posts σ' Ωf hsb hA
            have l1 : σ'.lookup 75 = some (aR v) := (hA 4 rfl).1.trans (congrArg some (hA 4 rfl).2.1)
            have l2 : σ'.lookup 78 = some (aL 1 [[D.i .i64 id]]) := (hA 7 rfl).1.trans (congrArg some (hA 7 rfl).2.1)
            refine L.app 0 Tryz.underlying49 i3 rfl rfl l1 l2 rfl (by simp; omega) (by simp; omega) rfl (fun _ => rfl) fun v79 => ?_
            exact L.last (G.fin [_] ⟨v79, rfl, rfl⟩ rfl)
          intro X posts hR
          obtain ⟨v79, hv79, hp8⟩ : ∃ v', X 8 = aR v' ∧ posts 8 = [.row v' 3 1 (ints out ++ [[D.i .i64 id]])] := hR 8 rfl
          have p0 : posts 0 = [] := (hR 0 rfl).2
          have p1 : posts 1 = [] := (hR 1 rfl).2
          have p2 : posts 2 = [] := (hR 2 rfl).2
          have p3 : posts 3 = [] := (hR 3 rfl).2
          have p4 : posts 4 = [] := (hR 4 rfl).2
          have p5 : posts 5 = [] := (hR 5 rfl).2
          have p6 : posts 6 = [] := (hR 6 rfl).2
          have p7 : posts 7 = [] := (hR 7 rfl).2
          have hp : (List.range 9).flatMap posts = [.row v79 3 1 (ints out ++ [[D.i .i64 id]])] := by
            show posts 0 ++ (posts 1 ++ (posts 2 ++ (posts 3 ++ (posts 4 ++ (posts 5 ++ (posts 6 ++ (posts 7 ++ (posts 8 ++ [])))))))) = _
            simp [p0, p1, p2, p3, p4, p5, p6, p7, hp8]
          rw [hp]
          refine L.sub (σ' := [(79, aR v79), (71, aP b 0), (8, aR (slV g 0 ps.length ps.length)), (5, aP b5 0), (3, aL 1 (bools abv)), (2, aL 1 (bools par)), (0, aP b 0)]) ⟨congrArg some hv79, congrArg some (hR 0 rfl).1, rfl, rfl, rfl, rfl, rfl, trivial⟩ ?_
          refine L.nilck rfl rfl ?_
          refine L.fa Tryz.underlying98 rfl s49 rfl rfl ?_
          refine L.sto 3 s49 rfl rfl rfl rfl rfl ?_
          refine L.last ?_
          refine G.conv (fun w hs => hs.perm (Ω' := [_, _, _, _]) (List.Perm.append_right [_] (List.perm_append_comm (l₁ := [_]) (l₂ := [_, _])))) ?_
          have hgl : (hereB ps (.mk id kind tag text cl at' st kids) par abv).getLast? = some true := by rw [List.getLast?_eq_getElem?, hereB_len]; exact (List.getElem?_eq_getElem hlast).trans (congrArg some h70)
          exact G.cut [(8, aR (slV g 0 ps.length ps.length)), (5, aP b5 0), (3, aL 1 (bools abv)), (2, aL 1 (bools par)), (0, aP b 0)] ⟨_, rfl, by rw [hgl, if_pos rfl]; simp [ints]; rfl⟩ (by repeat constructor)
        · skip
          refine T.skip ?_
          have hgl : (hereB ps (.mk id kind tag text cl at' st kids) par abv).getLast? = some false := by rw [List.getLast?_eq_getElem?, hereB_len]; exact (List.getElem?_eq_getElem hlast).trans (congrArg some h70)
          exact G.cut [(8, aR (slV g 0 ps.length ps.length)), (5, aP b5 0), (3, aL 1 (bools abv)), (2, aL 1 (bools par)), (0, aP b 0)] ⟨_, rfl, by rw [hgl, if_neg (by decide), List.append_nil]⟩ (by repeat constructor)
      · skip
        have h0 : ps.length = 0 := by have : ¬ 0 < ps.length := (by simpa using h64); omega
        refine L.off rfl rfl rfl rfl ?_
        refine L.off rfl rfl rfl rfl ?_
        refine L.off rfl rfl rfl rfl ?_
        refine L.off rfl rfl rfl rfl ?_
        refine L.off rfl rfl rfl rfl ?_
        refine L.pkF rfl rfl rfl ?_
        refine L.nil ?_
        refine T.condF rfl ?_
        refine T.skip ?_
        have hgl : (hereB ps (.mk id kind tag text cl at' st kids) par abv).getLast? = none := by rw [List.getLast?_eq_getElem?, hereB_len]; exact List.getElem?_eq_none (by rw [hereB_len]; omega)
        exact G.cut [(8, aR (slV g 0 ps.length ps.length)), (5, aP b5 0), (3, aL 1 (bools abv)), (2, aL 1 (bools par)), (0, aP b 0)] ⟨_, rfl, by rw [hgl, if_neg (by decide), List.append_nil]⟩ (by repeat constructor)

theorem f26 (ps : List SPart) (hps : ps.length ≤ 500) (b : Nat) : ∀ (n : Nat) (t : Tr), t.size ≤ n → t.ok → ∀ (par abv : List Bool) (v : Value) (out : List Int), par.length = ps.length → abv.length = ps.length → out.length + t.size ≤ 1000000 →
    Fc Tryz.prog 26 [P_ b 0, .g t.cs, L_ 1 (bools par), L_ 1 (bools abv)] (wk b ps v out) (fun x Ω => x = .t [] ∧ ∃ v', Ω = wk b ps v' (out ++ downM ps t par abv))
  | 0, .mk _ _ _ _ _ _ _ kids, hn, _ => by simp [Tr.size] at hn
  | n + 1, .mk id kind tag text cl at' st kids, hn, hok => fun par abv v out hpar habv hsz =>
    f26s ps hps id kind tag text cl at' st kids hok.1 hok.2.1 par abv hpar habv b v out hsz fun k h par abv v out h1 h2 h3 =>
      f26 ps hps b n kids[k] (by have := kidsSize_get h; simp only [Tr.size] at hn; omega) (kidsOk_get hok.2.2 h) par abv v out h1 h2 h3

set_option maxHeartbeats 2000000 in
theorem f10 (ps : List SPart) (hps : ps.length ≤ 500) (t : Tr) (hok : t.ok) (hsz : t.size ≤ 1000000) : Fc Tryz.prog 10 [.g t.cs, L_ 4 (sel ps)] [] (Just (aL 1 (ints (allM ps t)))) := by
  refine Fc.enter Tryz.func10 rfl Tryz.ntmps10 rfl fun X w => ?_
  refine T.rg ?_
  refine L.box rfl rfl fun b2 => ?_
  refine L.as rfl rfl ?_
  refine L.nil ?_
  refine T.rg ?_
  refine L.mv rfl rfl ?_
  refine L.bld p98 z98 rfl rfl rfl rfl rfl ?_
  refine L.box rfl rfl fun b9 => ?_
  refine L.as rfl rfl ?_
  refine L.nil ?_
  refine T.rg ?_
  refine L.mv rfl rfl ?_
  refine L.lenL Tryz.underlying52 rfl rfl fun hl11 => ?_
  rw [sel_len]
  refine L.mk (zd := .b false) Tryz.underlying99 i4 rfl rfl rfl rfl (by omega) (by omega) rfl fun g => ?_
  refine L.as rfl rfl ?_
  refine L.nil ?_
  refine T.rg ?_
  refine L.pub 6 0 rfl rfl rfl ?_
  rw [show List.replicate ps.length [D.b false] = bools (List.replicate ps.length false) by simp [bools]]
  refine L.mv rfl rfl ?_
  refine L.ldg (ys := t.cs) 1 a32 s32 rfl rfl (by rw [List.drop_zero]; exact List.take_of_length_le (by show t.cs.length ≤ 8; rw [Tr.cs_d, List.length_map, Tr.d_len]; exact Nat.le_refl _)) (by rw [Tr.cs_d, List.length_map, Tr.d_len]) rfl ?_
  refine L.mv rfl rfl ?_
  refine L.mv rfl rfl ?_
  refine L.conv (nil_row 3 1) ?_
  refine L.callO [] [_, _] [_] rfl e26 rfl rfl (f26 ps hps b9 t.size t (Nat.le_refl _) hok _ _ _ [] (by simp) (by simp) (by simpa using hsz)) ?_
  rintro _ _ ⟨rfl, v', rfl⟩
  refine L.nil ?_
  refine T.rg ?_
  refine L.mv rfl rfl ?_
  refine L.nilck rfl rfl ?_
  refine L.fa Tryz.underlying98 rfl s49 rfl rfl ?_
  refine L.ld 1 o49 rfl rfl rfl rfl ?_
  refine L.as rfl rfl ?_
  refine L.nil ?_
  refine T.ret ?_
  refine G.pub 4 0 rfl rfl rfl ?_
  refine G.conv (drop_at (i := 0) rfl rfl) ?_
  refine G.conv (drop_at (i := 0) rfl rfl) ?_
  exact G.ret (res1 Tryz.results10 rfl) ⟨rfl, rfl⟩
end Go.Proofs.YtimimkdgofiloaaGreat
