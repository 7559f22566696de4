/- Ranges over functions: yield's contract, an iterator's contract, the statement. Equality of truth values and of pairs of numbers. -/
import Derived.Test.YtimimkdgofiloaaGreatDoorQt
import Derived.ChangeKeysEq
namespace Go.Q
open Go

theorem St.like {X M : List Nat} {w0 w : World} {r r' : Option Nat} {ds ds' : List Deferred} {Ω : List Ob} (h : St ⟨X, M, w0, r, ds⟩ Ω w) : St ⟨X, M, w0, r', ds'⟩ Ω w :=
  ⟨h.os, h.tape, h.output, h.size, h.kept, h.nodup, h.lt, h.mine, h.apart, h.xlt, h.obs⟩

/-- What a call of yield does: its round. -/
def YFc (P : Program) (l : Nat) (yd : List (Value × D)) (as : List SV) (Ω : List Ob) (R : AV → List Ob → Prop) : Prop :=
  ∀ (X : List Nat) (w : World) (args : List Value), St ⟨X, owns Ω, w, none, []⟩ Ω w → All2 (Rsv (owns Ω ++ X) w) args as → (∀ p ∈ yd, Rc (owns Ω ++ X) w p.1 p.2) →
    YieldAt Fence.wide 0 P l args.toArray w fun e w' => ∃ v x Ω', e = .returned v ∧ R x Ω' ∧ St ⟨X, owns Ω, w, none, []⟩ Ω' w' ∧ Rav (owns Ω' ++ X) w' v x

section
variable {P : Program} {C : Ctx} {n : Nat} {ops : Array Oper} {Q : Pst} {rest : List Oper} {σ σ' : Env} {Ω Ω' A B : List Ob} {d : Nat} {ty : TypeId} {pos : String} {after : Array Edge}

theorem round_wide {l : Nat} {f : FuncId} {tmps : Array Value} {assign body : Code} {w : World} {R : Ending → World → Prop} (h : RoundIn Fence.wide 0 P l f tmps assign body w R) : RoundIn C.F 0 P l f tmps assign body w R := h

/-- A call of yield. -/
theorem L.callY {t : Nat} {l : Nat} {yd : List (Value × D)} {xs : List Operand} {ts : Array TypeId} {as : List SV} {R : AV → List Ob → Prop} (A Ω1 B : List Ob) (hΩ : Ω = A ++ Ω1 ++ B) (ht : σ.lookup t = some (.v (.c (.y l yd)))) (hx : evs σ xs = some as) (hdn : Nat.blt d n = true) (hF : YFc P l yd as Ω1 R)
    (h : ∀ x Ω', R x Ω' → L P C n ops Q rest ((d, x) :: σ) (A ++ Ω' ++ B)) : L P C n ops Q ({ dst := some d, op := .call { callee := .value (.tmp t), args := xs.toArray, argTypes := ts }, type := ty, pos, after, guard := none } :: rest) σ Ω := by
  subst hΩ
  intro a w hs ha
  obtain ⟨hcs, hX⟩ := frame_in hs
  obtain ⟨yv, hyv, hy1, hy2⟩ := ha.get t _ ht
  have hev : a.eval (.tmp t) = .func (.yield l) #[] #[] := by simp [Act.eval, hyv, hy1]
  have hargs := (ha.vals hx).mono fun _ _ => Rsv.step hX
  obtain ⟨fn, tmps, assign, body, hrun, hround⟩ := hF (owns A ++ owns B ++ C.X) w (xs.map a.eval) hcs hargs fun p hp => Rc.step hX (hy2 p hp)
  refine wpListIn_plain rfl fun K hK => ⟨Ctx.about, ?_⟩
  rw [plainOp_sem rfl]
  have hex : (execOp a.eval { dst := some d, op := .call { callee := .value (.tmp t), args := xs.toArray, argTypes := ts }, type := ty, pos, after, guard := none }).run P w = .ok (.round l fn tmps assign body) w := by
    simp [execOp, resolve, Deferred.ofValue, hev, invoke]
    simpa using hrun
  rw [hex, Oper.uponIn_round]
  refine ⟨(by intro h; cases h), RoundIn.mono (round_wide hround) ?_⟩
  rintro e w' ⟨v, x, Ω', rfl, hR, hs', hv⟩
  obtain ⟨hgo, hback⟩ := frame_out hs hs'
  exact hK _ _ (h x Ω' hR _ _ hgo.1 ((ha.step hgo.2).put (bltLt hdn) (hv.step hback)))

/-- An iterator: it yields N elements, in order, as long as it's told to go on. -/
def Iter (P : Program) (gf : FuncId) (caps : List SV) (Ωi : List Ob) (N : Nat) (el : Nat → List SV) : Prop :=
  ∀ (l : Nat) (yd : List (Value × D)) (J : Nat → List Ob → Prop) (Jx : List Ob → Prop),
    (∀ k Ωb, k < N → J k Ωb → YFc P l yd (el k) Ωb (fun x Ωb' => (x = aB true ∧ J (k + 1) Ωb') ∨ (x = aB false ∧ Jx Ωb'))) →
    ∀ Ωb, J 0 Ωb → Fc P gf (.c (.y l yd) :: caps) (Ωi ++ Ωb) (fun _ Ω' => ∃ Ωb', Ω' = Ωi ++ Ωb' ∧ (J N Ωb' ∨ Jx Ωb'))

/-- The slots of yield's arguments. -/
def penv : List Nat → List SV → Env → Env
  | p :: ps, e :: es, σ => penv ps es ((p, .v e) :: σ)
  | _, _, σ => σ

theorem Has.fold {n : Nat} {Y : List Nat} {w : World} : ∀ {ps : List Nat} {args : List Value} {es : List SV} {tmps : Array Value} {σ : Env}, Has n [] Y w { tmps := tmps, defers := [] } σ → (∀ p ∈ ps, p < n) → All2 (Rsv Y w) args es →
    Has n [] Y w { tmps := (ps.zip args).foldl (fun t (pv : Nat × Value) => t.setIfInBounds pv.1 pv.2) tmps, defers := [] } (penv ps es σ)
  | [], [], [], _, _, h, _, _ => h
  | [], _ :: _, _ :: _, _, _, h, _, _ => h
  | _ :: _, [], [], _, _, h, _, _ => h
  | p :: ps, a :: args, e :: es, tmps, σ, h, hp, ⟨h1, h2⟩ => by
    have hput := h.put (hp p (by simp)) (x := .v e) h1
    exact Has.fold (tmps := tmps.setIfInBounds p a) hput (fun q hq => hp q (by simp [hq])) h2
  | _, [], _ :: _, _, _, _, _, h2 => h2.elim
  | _, _ :: _, [], _, _, _, _, h2 => h2.elim

/-- Values that hang on no world but by data. -/
def simpleE : Env → Bool
  | [] => true
  | (_, .v (.c (.d _))) :: σ => simpleE σ
  | (_, .v (.c (.p _ _))) :: σ => simpleE σ
  | (_, .v (.c (.r _))) :: σ => simpleE σ
  | _ => false
/-- The data among them, with the values that lead to it. -/
def dataE (tmps : Array Value) : Env → List (Value × D)
  | [] => []
  | (d, .v (.c (.d x))) :: σ => (tmps.getD d undef, x) :: dataE tmps σ
  | _ :: σ => dataE tmps σ

theorem simple_get {Y0 Y : List Nat} {w0 w : World} {tmps : Array Value} : ∀ {σ : Env}, simpleE σ = true → (∀ d x, (d, x) ∈ σ → ∃ v, tmps[d]? = some v ∧ Rav Y0 w0 v x) → (∀ p ∈ dataE tmps σ, Rc Y w p.1 p.2) →
    ∀ d x, (d, x) ∈ σ → ∃ v, tmps[d]? = some v ∧ Rav Y w v x
  | [], _, _, _, _, _, h => by cases h
  | (e, y) :: σ, hs, h0, hd, d, x, hm => by
    have hrest : simpleE σ = true ∧ (∀ p ∈ dataE tmps σ, Rc Y w p.1 p.2) := by
      unfold simpleE at hs
      split at hs
      · rename_i hh; simp at hh
      · rename_i hh; simp only [List.cons.injEq, Prod.mk.injEq] at hh; obtain ⟨⟨rfl, rfl⟩, rfl⟩ := hh
        exact ⟨hs, fun p hp => hd p (by simp [dataE, hp])⟩
      · rename_i hh; simp only [List.cons.injEq, Prod.mk.injEq] at hh; obtain ⟨⟨rfl, rfl⟩, rfl⟩ := hh
        exact ⟨hs, fun p hp => hd p (by simpa [dataE] using hp)⟩
      · rename_i hh; simp only [List.cons.injEq, Prod.mk.injEq] at hh; obtain ⟨⟨rfl, rfl⟩, rfl⟩ := hh
        exact ⟨hs, fun p hp => hd p (by simpa [dataE] using hp)⟩
      · cases hs
    rcases List.mem_cons.1 hm with hh | hh
    · simp only [Prod.mk.injEq] at hh
      obtain ⟨rfl, rfl⟩ := hh
      obtain ⟨v, h1, h2⟩ := h0 d x (by simp)
      refine ⟨v, h1, ?_⟩
      unfold simpleE at hs
      split at hs
      · rename_i hh; simp at hh
      · rename_i z _ hh; simp only [List.cons.injEq, Prod.mk.injEq] at hh; obtain ⟨⟨rfl, rfl⟩, rfl⟩ := hh
        have h3 := hd (tmps.getD d undef, z) (by simp [dataE])
        have h4 : tmps.getD d undef = v := by simp [Array.getD_eq_getD_getElem?, h1]
        rw [h4] at h3
        exact h3
      · rename_i hh; simp only [List.cons.injEq, Prod.mk.injEq] at hh; obtain ⟨⟨rfl, rfl⟩, rfl⟩ := hh
        exact h2
      · rename_i hh; simp only [List.cons.injEq, Prod.mk.injEq] at hh; obtain ⟨⟨rfl, rfl⟩, rfl⟩ := hh
        exact h2
      · cases hs
    · exact simple_get hrest.1 (fun d x h => h0 d x (by simp [h])) hrest.2 d x hh

/-- Each slot once. -/
def onceE : Env → Bool
  | [] => true
  | (d, _) :: σ => (σ.all fun p => !Nat.beq p.1 d) && onceE σ
theorem once_lookup : ∀ {σ : Env}, onceE σ = true → ∀ {d : Nat} {x : AV}, (d, x) ∈ σ → σ.lookup d = some x
  | [], _, _, _, h => by cases h
  | (e, y) :: σ, ho, d, x, hm => by
    simp only [onceE, Bool.and_eq_true, List.all_eq_true] at ho
    rcases List.mem_cons.1 hm with hh | hh
    · simp only [Prod.mk.injEq] at hh
      obtain ⟨rfl, rfl⟩ := hh
      simp [List.lookup]
    · have hne : d ≠ e := nbeq (by simpa using ho.1 (d, x) hh)
      have hb : (d == e) = false := by simpa using hne
      simp only [List.lookup, hb]
      exact once_lookup ho.2 hh
theorem lookup_mem : ∀ {σ : Env} {d : Nat} {x : AV}, σ.lookup d = some x → (d, x) ∈ σ
  | [], _, _, h => by simp at h
  | (e, y) :: σ, d, x, h => by
    by_cases he : d = e
    · subst he
      simp [List.lookup] at h
      subst h
      simp
    · have hb : (d == e) = false := by simpa using he
      simp only [List.lookup, hb] at h
      exact List.mem_cons_of_mem _ (lookup_mem h)

/-- How a round's body may be left. -/
def RP (Cr : Ctx) (J : List Ob → Prop) (Jx : Code → List Ob → Prop) : Pst := fun e _ w =>
  match e with
  | .normal => ∃ Ω', J Ω' ∧ St Cr Ω' w
  | .ret => ∃ Ω', Jx .ret Ω' ∧ St Cr Ω' w
  | .exit id => ∃ Ω', Jx (.exit id) Ω' ∧ St Cr Ω' w
  | _ => False
theorem G.rp {J : List Ob → Prop} {Jx : Code → List Ob → Prop} (h : J Ω) : G C n (RP C J Jx .normal) σ Ω := fun _ _ hs _ => ⟨Ω, h, hs⟩
theorem G.rpRet {J : List Ob → Prop} {Jx : Code → List Ob → Prop} (h : Jx .ret Ω) : G C n (RP C J Jx .ret) σ Ω := fun _ _ hs _ => ⟨Ω, h, hs⟩
theorem G.rpExit {J : List Ob → Prop} {Jx : Code → List Ob → Prop} {id : Nat} (h : Jx (.exit id) Ω) : G C n (RP C J Jx (.exit id)) σ Ω := fun _ _ hs _ => ⟨Ω, h, hs⟩

/-- The assignments to the loop's left sides are through. -/
def AP (Cr : Ctx) (n : Nat) (I : Env → List Ob → Prop) : Pst := fun e a w =>
  match e with
  | .normal => ∃ σ' Ω', I σ' Ω' ∧ St Cr Ω' w ∧ Has n Cr.ds (owns Ω' ++ Cr.X) w a σ'
  | _ => False
theorem G.ap {I : Env → List Ob → Prop} (σ' : Env) (h : I σ' Ω) (hsub : Sub σ σ') : G C n (AP C n I .normal) σ Ω := fun _ _ hs ha => ⟨σ', Ω, h, hs, ha.sub hsub⟩

abbrev mk0 (D : Nat) : Deferred := { target := .collected D, args := #[] }
theorem putObj_other {w : World} {r k : Nat} {o : Obj} (h : k ≠ r) : (w.putObj r o).heap[k]? = w.heap[k]? := World.putObj_heap_other h

/-- A range over a function. -/
theorem T.rangeFunc {g : Operand} {ps : Array Tmp} {assign body : Code} {gf : FuncId} {caps : List Value} {N : Nat} {el : Nat → List SV} {Ωi Ω0 : List Ob} (hr : C.r = none) (hg : ev σ g = some (aR (.func (.func gf) #[] caps.toArray))) (hent : enters P gf = true) (hcap : caps.all Value.oneCell' = true)
    (hIt : Iter P gf (capS caps) Ωi N el) (σb : Env) (hsub : Sub σ σb) (hsim : simpleE σb = true) (honce : onceE σb = true) (hps : ∀ p ∈ ps, p < n) (hlen : ∀ k, k < N → (el k).length = ps.size)
    (J : Nat → List Ob → Prop) (Jx : Code → List Ob → Prop) (h0 : J 0 Ω0) (A : Nat → Env → List Ob → Prop)
    (hassign : ∀ (Cr : Ctx) k Ωu, Cr.ds = [] → k < N → J k Ωu → T P Cr n (AP Cr n (A k)) assign (penv ps.toList (el k) σb) Ωu)
    (hbody : ∀ (Cr : Ctx) k σ1 Ω1, Cr.ds = [] → k < N → A k σ1 Ω1 → T P Cr n (RP Cr (J (k + 1)) Jx) body σ1 Ω1)
    (hdone : ∀ D ΩN, J N ΩN → G ⟨C.X, C.M, C.w0, none, mk0 D :: C.ds⟩ n (Q .normal) σb (.raw D (.deferred (some [])) :: (Ωi ++ ΩN)))
    (hstop : ∀ D c Ωx, Jx c Ωx → T P ⟨C.X, C.M, C.w0, none, mk0 D :: C.ds⟩ n Q c σb (.raw D (.deferred (some [])) :: (Ωi ++ Ωx))) :
    T P C n Q (.rangeFunc g ps assign body) σ (Ωi ++ Ω0) := by
  obtain ⟨X, M, w0, r, ds⟩ := C
  have hr' : r = none := hr
  subst hr'
  intro a w hs ha
  have hgv : a.eval g = .func (.func gf) #[] caps.toArray := ha.raw hg
  have hasub := ha.sub hsub
  show (Code.rangeFunc g ps assign body).wpIn Fence.wide 0 P Q a w
  refine wpIn_rangeFunc (F := Fence.wide) fun fn hfn => ?_
  obtain ⟨rec, hrec⟩ : ∃ rec : LoopState → Option Code → Loop, rec = fun st pe => { state := st, pending := pe, fn, tmps := a.tmps, params := ps, assign, body, defers := w.heap.size } := ⟨_, rfl⟩
  obtain ⟨hs1, hst1⟩ := hs.allocRaw (.deferred (some []))
  obtain ⟨hs2, hst2⟩ := hs1.allocRaw (.loop (rec .ready none))
  have hsz : (w.alloc (.deferred (some []))).heap.size = w.heap.size + 1 := by simp
  rw [hsz] at hs2 hst2
  obtain ⟨W1, hW1⟩ : ∃ W1, (w.alloc (.deferred (some []))).alloc (.loop (rec .ready none)) = W1 := ⟨_, rfl⟩
  rw [hW1] at hs2 hst2
  obtain ⟨l, hl⟩ : ∃ l, w.heap.size + 1 = l := ⟨_, rfl⟩
  obtain ⟨D, hD⟩ : ∃ D, w.heap.size = D := ⟨_, rfl⟩
  refine ⟨l, [mk0 D], W1, { target := .fn (.func gf) caps.toArray, args := #[.func (.yield l) #[] #[]] }, W1, gf, #[.func (.yield l) #[] #[]] ++ caps.toArray, W1, ?_, ?_, fun _ _ => trivial, ?_, fun h => (by cases h), ?_⟩
  · rw [← hW1, ← hl, ← hD, hrec]; exact run_enterLoop_outer _ _ _ _ _
  · simp only [resolve, hgv]
    simp [go_sem]
  · simp [invoke, go_sem, run_callFunc hent]
  rw [hl] at hs2 hst2
  rw [hD] at hs1 hs2 hst1 hst2
  -- the order of what is owned
  have hperm : (Ob.raw l (.loop (rec .ready none)) :: .raw D (.deferred (some [])) :: (Ωi ++ Ω0)).Perm (Ωi ++ (.raw l (.loop (rec .ready none)) :: .raw D (.deferred (some [])) :: Ω0)) := by
    have : (Ob.raw l (.loop (rec .ready none)) :: .raw D (.deferred (some [])) :: (Ωi ++ Ω0)) = [Ob.raw l (.loop (rec .ready none)), .raw D (.deferred (some []))] ++ (Ωi ++ Ω0) := rfl
    rw [this, ← List.append_assoc]
    have h2 : (Ωi ++ (Ob.raw l (.loop (rec .ready none)) :: .raw D (.deferred (some [])) :: Ω0)) = (Ωi ++ [Ob.raw l (.loop (rec .ready none)), .raw D (.deferred (some []))]) ++ Ω0 := by simp
    rw [h2]
    exact List.perm_append_comm.append_right _
  obtain ⟨hs3, hst3⟩ := hs2.perm hperm
  have hstep : Step (owns (Ωi ++ Ω0) ++ X) (owns (Ωi ++ (.raw l (.loop (rec .ready none)) :: .raw D (.deferred (some [])) :: Ω0)) ++ X) w W1 := (hst1.trans hst2).trans hst3
  have ha3 := hasub.step hstep
  have hm3 : ∀ d x, (d, x) ∈ σb → ∃ v, a.tmps[d]? = some v ∧ Rav (owns (Ωi ++ (.raw l (.loop (rec .ready none)) :: .raw D (.deferred (some [])) :: Ω0)) ++ X) W1 v x := fun d x h => ha3.get d x (once_lookup honce h)
  have hyd : ∀ p ∈ dataE a.tmps σb, Rc (owns (Ωi ++ (.raw l (.loop (rec .ready none)) :: .raw D (.deferred (some [])) :: Ω0)) ++ X) W1 p.1 p.2 := by
    have hgen : ∀ σ : Env, (∀ d x, (d, x) ∈ σ → ∃ v, a.tmps[d]? = some v ∧ Rav (owns (Ωi ++ (.raw l (.loop (rec .ready none)) :: .raw D (.deferred (some [])) :: Ω0)) ++ X) W1 v x) → ∀ p ∈ dataE a.tmps σ, Rc (owns (Ωi ++ (.raw l (.loop (rec .ready none)) :: .raw D (.deferred (some [])) :: Ω0)) ++ X) W1 p.1 p.2 := by
      intro σ
      induction σ with
      | nil => intro _ p hp; simp [dataE] at hp
      | cons q σ ih =>
        intro hq p hp
        unfold dataE at hp
        split at hp
        · cases hp
        · rename_i d x σ' hh
          simp only [List.cons.injEq] at hh
          obtain ⟨rfl, rfl⟩ := hh
          rcases List.mem_cons.1 hp with rfl | hp
          · obtain ⟨v, h1, h2⟩ := hq d (.v (.c (.d x))) (by simp)
            have h4 : a.tmps.getD d undef = v := by simp [Array.getD_eq_getD_getElem?, h1]
            simp only [h4]
            exact h2
          · exact ih (fun d x h => hq d x (by simp [h])) p hp
        · rename_i hh
          simp only [List.cons.injEq] at hh
          obtain ⟨rfl, rfl⟩ := hh
          exact ih (fun d x h => hq d x (by simp [h])) p hp
    exact hgen σb hm3
  -- the iterator's contract
  have hFc := hIt l (dataE a.tmps σb) (fun k Ωb => ∃ Ωu, Ωb = .raw l (.loop (rec .ready none)) :: .raw D (.deferred (some [])) :: Ωu ∧ J k Ωu)
    (fun Ωb => ∃ c Ωu, Ωb = .raw l (.loop (rec .done (some c))) :: .raw D (.deferred (some [])) :: Ωu ∧ Jx c Ωu) ?_ _ ⟨Ω0, rfl, h0⟩
  · -- behind the iterator
    have hin := frame_in (A := []) (B := []) (Ω1 := Ωi ++ (.raw l (.loop (rec .ready none)) :: .raw D (.deferred (some [])) :: Ω0)) (by simpa using hs3)
    have hX0 : owns ([] : List Ob) ++ owns [] ++ X = X := by simp [owns]
    have hargs : All2 (Rsv (owns (Ωi ++ (.raw l (.loop (rec .ready none)) :: .raw D (.deferred (some [])) :: Ω0)) ++ X) W1) (.func (.yield l) #[] #[] :: caps) (.c (.y l (dataE a.tmps σb)) :: capS caps) := ⟨⟨rfl, hyd⟩, capS_ok hcap⟩
    have hin1 : St ⟨X, owns (Ωi ++ (.raw l (.loop (rec .ready none)) :: .raw D (.deferred (some [])) :: Ω0)), W1, none, []⟩ (Ωi ++ (.raw l (.loop (rec .ready none)) :: .raw D (.deferred (some [])) :: Ω0)) W1 := by
      have := hin.1
      simp only [hX0] at this
      exact this
    have hcall := hFc X W1 (.func (.yield l) #[] #[] :: caps) hin1 hargs
    have harr : (#[.func (.yield l) #[] #[]] ++ caps.toArray : Array Value) = (.func (.yield l) #[] #[] :: caps).toArray := by simp
    rw [harr]
    refine CallsIn.mono (callsIn_wide.2 hcall) ?_
    rintro e w' ⟨v, x, Ω', rfl, ⟨Ωb', rfl, hJ⟩, hs', hv⟩
    have hout := frame_out (A := []) (B := []) (C := ⟨X, M, w0, none, ds⟩) (Ω1 := Ωi ++ (.raw l (.loop (rec .ready none)) :: .raw D (.deferred (some [])) :: Ω0)) (Ω' := Ωi ++ Ωb') (w := W1) (w' := w') (r := none) (ds := []) (by simpa using hs3) (by simp only [hX0]; exact hs')
    simp only [List.nil_append, List.append_nil] at hout
    obtain ⟨⟨hs4, hst4⟩, _⟩ := hout
    have ha4 := ha3.step hst4
    have fin : ∀ (st : LoopState) (pe : Option Code) (Ωu : List Ob), st ≠ .busy → Ωb' = .raw l (.loop (rec st pe)) :: .raw D (.deferred (some [])) :: Ωu →
        ∃ w4, (Instr.endLoop l).run P w' = .ok pe w4 ∧ St ⟨X, M, w0, none, mk0 D :: ds⟩ (.raw D (.deferred (some [])) :: (Ωi ++ Ωu)) w4 ∧ Has n (mk0 D :: ds) (owns (.raw D (.deferred (some [])) :: (Ωi ++ Ωu)) ++ X) w4 { a with defers := [mk0 D] ++ a.defers } σb := by
      intro st pe Ωu hst hΩb
      subst hΩb
      have hobs : w'.heap[l]? = some (.loop (rec st pe)) := hs4.obs (.raw l (.loop (rec st pe))) (by simp)
      have hlt : l < w'.heap.size := (Array.getElem?_eq_some_iff.1 hobs).1
      obtain ⟨L5, hL5⟩ : ∃ L5 : Loop, { rec st pe with state := .exhausted } = L5 := ⟨_, rfl⟩
      have hend' : (Instr.endLoop l).run P w' = .ok pe (w'.putObj l (.loop L5)) := by rw [← hL5]; subst hrec; exact run_endLoop (P := P) hobs (by exact hst)
      obtain ⟨w5, hw5⟩ : ∃ w5, w'.putObj l (.loop L5) = w5 := ⟨_, rfl⟩
      rw [hw5] at hend'
      obtain ⟨hs5, hst5⟩ := hs4.setRaw (A := Ωi) (w' := w5) (x' := .loop L5) (by rw [← hw5]; rfl) (by rw [← hw5]; rfl) (by rw [← hw5]; rfl) (by rw [← hw5]; exact World.putObj_size) (fun r hr => by rw [← hw5]; exact putObj_other hr) (by rw [← hw5]; exact World.putObj_heap_same hlt)
      obtain ⟨hs6, hst6⟩ := hs5.drop
      have hp6 : (Ωi ++ (Ob.raw D (.deferred (some [])) :: Ωu)).Perm (.raw D (.deferred (some [])) :: (Ωi ++ Ωu)) := List.perm_middle
      obtain ⟨hs7, hst7⟩ := hs6.perm hp6
      have ha7 := ((ha4.step hst5).step hst6).step hst7
      exact ⟨w5, hend', hs7.like, ⟨ha7.size, by simp [ha.defers], ha7.get⟩⟩
    rcases hJ with ⟨Ωu, hΩb, hJN⟩ | ⟨c, Ωu, hΩb, hJc⟩
    · obtain ⟨w4, h1, h2, h3⟩ := fin .ready none Ωu (by simp) hΩb
      exact ⟨none, w4, h1, hdone D Ωu hJN _ _ h2 h3⟩
    · obtain ⟨w4, h1, h2, h3⟩ := fin .done (some c) Ωu (by simp) hΩb
      exact ⟨some c, w4, h1, hstop D c Ωu hJc _ _ h2 h3⟩
  · -- one round
    rintro k Ωb hk ⟨Ωu, rfl, hJk⟩ X' wy args hsy hargs hydy
    have hobs : wy.heap[l]? = some (.loop (rec .ready none)) := hsy.obs (.raw l (.loop (rec .ready none))) (by simp)
    have hlt : l < wy.heap.size := (Array.getElem?_eq_some_iff.1 hobs).1
    have hsize : args.toArray.size = ps.size := by
      have := hargs.length
      rw [hlen k hk] at this
      simpa using this
    have hy := run_yield (P := P) (args := args.toArray) hobs (by rw [hrec]; exact hsize)
    rw [hrec] at hy
    refine ⟨fn, _, assign, body, hy, roundIn_of_wpIn (F := Fence.wide) (n := 0) trivial ?_⟩
    clear hy
    -- the body's part of what is owned
    have hin := frame_in (A := [.raw l (.loop (rec .ready none)), .raw D (.deferred (some []))]) (Ω1 := Ωu) (B := []) (C := ⟨X', owns (.raw l (.loop (rec .ready none)) :: .raw D (.deferred (some [])) :: Ωu), wy, none, []⟩) (by simpa using hsy)
    obtain ⟨hin1, hinS⟩ := hin
    have heq : ([.raw l (.loop (rec .ready none)), .raw D (.deferred (some []))] ++ Ωu ++ [] : List Ob) = .raw l (.loop (rec .ready none)) :: .raw D (.deferred (some [])) :: Ωu := by simp
    rw [heq] at hinS
    obtain ⟨Xr, hXr⟩ : ∃ Xr, owns [Ob.raw l (.loop (rec .ready none)), .raw D (.deferred (some []))] ++ owns [] ++ X' = Xr := ⟨_, rfl⟩
    simp only [hXr] at hin1 hinS
    have hget0 := simple_get (Y0 := owns (Ωi ++ (.raw l (.loop (rec .ready none)) :: .raw D (.deferred (some [])) :: Ω0)) ++ X) (w0 := W1) hsim hm3 hydy
    have hH0 : Has n [] (owns Ωu ++ Xr) wy { tmps := a.tmps, defers := [] } σb := ⟨ha.size, rfl, fun d x hx => by
      obtain ⟨v, h1, h2⟩ := hget0 d x (lookup_mem hx)
      exact ⟨v, h1, h2.step hinS⟩⟩
    have hH1 := Has.fold (ps := ps.toList) hH0 (fun p hp => hps p (by simpa using hp)) (hargs.mono fun _ _ => Rsv.step hinS)
    have hfold : (ps.zip args.toArray).foldl (fun tmps (ta : Nat × Value) => tmps.setIfInBounds ta.1 ta.2) a.tmps = (ps.toList.zip args).foldl (fun t (pv : Nat × Value) => t.setIfInBounds pv.1 pv.2) a.tmps := by
      rw [← Array.foldl_toList]
      congr 1
      simp
    simp only [hfold]
    have hT := hassign ⟨Xr, owns Ωu, wy, some l, []⟩ k Ωu rfl hk hJk _ _ hin1.like hH1
    refine wpIn_mono hT ?_
    rintro e a1 w1 hq
    cases e with
    | normal =>
      obtain ⟨σ1, Ω1, hA1, hsA, haA⟩ := hq
      -- the record is busy
      have hback := frame_out (A := [.raw l (.loop (rec .ready none)), .raw D (.deferred (some []))]) (Ω1 := Ωu) (B := []) (C := ⟨X', owns (.raw l (.loop (rec .ready none)) :: .raw D (.deferred (some [])) :: Ωu), wy, none, []⟩) (Ω' := Ω1) (w := wy) (w' := w1) (r := some l) (ds := []) (by simpa using hsy) (by simp only [hXr]; exact hsA)
      simp only [hXr] at hback
      obtain ⟨⟨hsB, _⟩, hstB⟩ := hback
      simp only [List.append_nil] at hsB hstB
      have hsB' : St ⟨X', owns (.raw l (.loop (rec .ready none)) :: .raw D (.deferred (some [])) :: Ωu), wy, none, []⟩ ([] ++ .raw l (.loop (rec .ready none)) :: (.raw D (.deferred (some [])) :: Ω1)) w1 := hsB
      have hobs1 : w1.heap[l]? = some (.loop (rec .ready none)) := hsB.obs (.raw l (.loop (rec .ready none))) (by simp)
      have hlt1 : l < w1.heap.size := (Array.getElem?_eq_some_iff.1 hobs1).1
      refine ⟨_, run_beginRound hobs1 (by rw [hrec]), ?_⟩
      obtain ⟨w2, hw2⟩ : ∃ w2, w1.putObj l (.loop { rec .ready none with state := .busy }) = w2 := ⟨_, rfl⟩
      obtain ⟨hsC, hstC⟩ := hsB'.setRaw (w' := w2) (x' := .loop { rec .ready none with state := .busy }) (by rw [← hw2]; rfl) (by rw [← hw2]; rfl) (by rw [← hw2]; rfl) (by rw [← hw2]; exact World.putObj_size) (fun r hr => by rw [← hw2]; exact putObj_other hr) (by rw [← hw2]; exact World.putObj_heap_same hlt1)
      rw [hw2]
      have hin2 := frame_in (A := [.raw l (.loop { rec .ready none with state := .busy }), .raw D (.deferred (some []))]) (Ω1 := Ω1) (B := []) (C := ⟨X', owns (.raw l (.loop (rec .ready none)) :: .raw D (.deferred (some [])) :: Ωu), wy, none, []⟩) (w := w2) (by simpa using hsC)
      obtain ⟨hin3, hinS3⟩ := hin2
      have hXr2 : owns [Ob.raw l (.loop { rec .ready none with state := .busy }), .raw D (.deferred (some []))] ++ owns [] ++ X' = Xr := by rw [← hXr]; rfl
      simp only [hXr2] at hin3 hinS3
      have heq2 : ([.raw l (.loop { rec .ready none with state := .busy }), .raw D (.deferred (some []))] ++ Ω1 ++ [] : List Ob) = [] ++ .raw l (.loop { rec .ready none with state := .busy }) :: (.raw D (.deferred (some [])) :: Ω1) := by simp
      rw [heq2] at hinS3
      have haB := ((haA.step hstB).step hstC).step hinS3
      have hT2 := hbody ⟨Xr, owns Ω1, w2, some l, []⟩ k σ1 Ω1 rfl hk hA1 _ _ hin3.like haB
      refine wpIn_mono hT2 ?_
      have fin : ∀ (jump : Option Code) (w3 : World) (Ω3 : List Ob), St ⟨Xr, owns Ω1, w2, some l, []⟩ Ω3 w3 →
          ∃ w4, (Instr.endRound l jump).run P w3 = .ok (.bool jump.isNone) w4 ∧ St ⟨X', owns (.raw l (.loop (rec .ready none)) :: .raw D (.deferred (some [])) :: Ωu), wy, none, []⟩ (.raw l (.loop (rec (if jump.isNone then .ready else .done) jump)) :: .raw D (.deferred (some [])) :: Ω3) w4 := by
        intro jump w3 Ω3 hs3'
        have hback3 := frame_out (A := [.raw l (.loop { rec .ready none with state := .busy }), .raw D (.deferred (some []))]) (Ω1 := Ω1) (B := []) (C := ⟨X', owns (.raw l (.loop (rec .ready none)) :: .raw D (.deferred (some [])) :: Ωu), wy, none, []⟩) (Ω' := Ω3) (w := w2) (w' := w3) (r := some l) (ds := []) (by simpa using hsC) (by simp only [hXr2]; exact hs3')
        obtain ⟨⟨hsE, _⟩, _⟩ := hback3
        simp only [List.append_nil] at hsE
        have hsE' : St ⟨X', owns (.raw l (.loop (rec .ready none)) :: .raw D (.deferred (some [])) :: Ωu), wy, none, []⟩ ([] ++ .raw l (.loop { rec .ready none with state := .busy }) :: (.raw D (.deferred (some [])) :: Ω3)) w3 := hsE
        have hobs3 : w3.heap[l]? = some (.loop { rec .ready none with state := .busy }) := hsE.obs (.raw l (.loop { rec .ready none with state := .busy })) (by simp)
        have hlt3 : l < w3.heap.size := (Array.getElem?_eq_some_iff.1 hobs3).1
        have hrun := run_endRound (P := P) jump hobs3
        refine ⟨_, hrun, ?_⟩
        have hsF := (hsE'.setRaw (w' := w3.putObj l (.loop { ({ rec .ready none with state := .busy } : Loop) with state := if jump.isNone then .ready else .done, pending := jump })) (x' := .loop { ({ rec .ready none with state := .busy } : Loop) with state := if jump.isNone then .ready else .done, pending := jump }) rfl rfl rfl World.putObj_size (fun r hr => putObj_other hr) (World.putObj_heap_same hlt3)).1
        have hreq : ({ ({ rec .ready none with state := .busy } : Loop) with state := if jump.isNone then .ready else .done, pending := jump } : Loop) = rec (if jump.isNone then .ready else .done) jump := by rw [hrec]
        rw [hreq] at hsF ⊢
        exact hsF
      rintro e a3 w3 hp
      cases e with
      | normal =>
        obtain ⟨Ω3, hJ3, hs3'⟩ := hp
        obtain ⟨w4, hr4, hs4⟩ := fin none w3 Ω3 hs3'
        exact ⟨_, w4, hr4, .bool true, aB true, _, rfl, .inl ⟨rfl, Ω3, rfl, hJ3⟩, hs4, rB⟩
      | ret =>
        obtain ⟨Ω3, hJ3, hs3'⟩ := hp
        obtain ⟨w4, hr4, hs4⟩ := fin (some .ret) w3 Ω3 hs3'
        exact ⟨_, w4, hr4, .bool false, aB false, _, rfl, .inr ⟨rfl, .ret, Ω3, rfl, hJ3⟩, hs4, rB⟩
      | exit id =>
        obtain ⟨Ω3, hJ3, hs3'⟩ := hp
        obtain ⟨w4, hr4, hs4⟩ := fin (some (.exit id)) w3 Ω3 hs3'
        exact ⟨_, w4, hr4, .bool false, aB false, _, rfl, .inr ⟨rfl, .exit id, Ω3, rfl, hJ3⟩, hs4, rB⟩
      | goto t => exact hp.elim
      | panic ch => exact hp.elim
      | outgrown => exact hp.elim
    | exit id => exact hq.elim
    | goto t => exact hq.elim
    | ret => exact hq.elim
    | panic ch => exact hq.elim
    | outgrown => exact hq.elim

/-- The end of a body that holds one range over a function. -/
theorem G.retM {fn : Func} {R : AV → List Ob → Prop} {x : AV} {X M : List Nat} {w0 : World} {D : Nat} {A B : List Ob} (hres : ∀ a w, St ⟨X, M, w0, none, [mk0 D]⟩ (A ++ B) w → Has n [mk0 D] (owns (A ++ B) ++ X) w a σ → ∃ v, (results fn a.tmps).run P w = .ok v w ∧ Rav (owns (A ++ B) ++ X) w v x) (hR : R x (A ++ B)) :
    G ⟨X, M, w0, none, [mk0 D]⟩ n (Post P fn ⟨X, M, w0, none, []⟩ R .ret) σ (A ++ .raw D (.deferred (some [])) :: B) := by
  intro a w hs ha
  have hobs : w.heap[D]? = some (.deferred (some [])) := hs.obs (.raw D (.deferred (some []))) (by simp)
  have hlt : D < w.heap.size := (Array.getElem?_eq_some_iff.1 hobs).1
  obtain ⟨hs1, hst1⟩ := hs.setRaw (w' := w.putObj D (.deferred none)) (x' := .deferred none) rfl rfl rfl World.putObj_size (fun r hr => putObj_other hr) (World.putObj_heap_same hlt)
  obtain ⟨hs2, hst2⟩ := hs1.drop
  have ha2 := (ha.step hst1).step hst2
  obtain ⟨v, h1, h2⟩ := hres a _ hs2 ha2
  have hd : a.defers = [mk0 D] := ha.defers
  show LeavesInM Fence.wide 0 P fn a.tmps _ a.defers .returning w
  rw [hd]
  refine ⟨by simp, .inl ⟨D, _, rfl, run_takeDeferred hobs, ?_⟩⟩
  exact ⟨v, h1, v, x, _, rfl, hR, hs2.like, h2⟩

end
end Go.Q
namespace Go.Q
open Go

section
variable {P : Program} {C : Ctx} {n : Nat} {ops : Array Oper} {Q : Pst} {rest : List Oper} {σ σ' : Env} {Ω Ω' A B : List Ob} {d : Nat} {ty : TypeId} {pos : String} {after : Array Edge}

theorem L.eqBB {t u : TypeId} {x y : Operand} {a b : Bool} (hu : P.underlying t = some .bool) (hx : ev σ x = some (aB a)) (hy : ev σ y = some (aB b)) (hdn : Nat.blt d n = true)
    (h : L P C n ops Q rest ((d, aB (a == b)) :: σ) Ω) : L P C n ops Q ({ dst := some d, op := .binOp .eql t x y u, type := ty, pos, after, guard := none } :: rest) σ Ω :=
  L.pure rfl rfl hdn (fun _ _ _ ha => ⟨.bool (a == b), by
    simp [execOp, ha.bool hx, ha.bool hy, eqGuard, run_eql_bool _ _ _ _ hu], rB⟩) h

/-- Two cells, numbers both. -/
structure isP2 (P : Program) (t : TypeId) (f g : Field) (k k' : IntKind) : Prop where
  under : P.underlying t = some (.struct (P.fieldsOf t))
  held : P.stoodInHeld t = false
  guard : P.eqGuardType P.depth t = false
  fields : (P.fieldsOf t).toList = [f, g]
  n1 : f.name ≠ "_"
  n2 : g.name ≠ "_"
  o1 : f.offset = 0
  o2 : g.offset = 1
  p1 : P.plainKey f.type = true
  p2 : P.plainKey g.type = true
  u1 : P.underlying f.type = some (.int k)
  u2 : P.underlying g.type = some (.int k')

theorem run_p2 {t : TypeId} {f g : Field} {k k' : IntKind} (h : isP2 P t f g k k') (a b c e : Int) (w : World) : (binOp .eql t (.agg #[.int k a, .int k' b]) (.agg #[.int k c, .int k' e])).run P w = .ok (.bool (decide (a = c ∧ b = e))) w := by
  rw [run_eql_struct, run_equalIn_agg _ 9999 _ _ _ h.under h.held, h.fields]
  have q1 : ∀ w, (part f.type #[.int k a, .int k' b] 0).run P w = .ok (.int k a) w := fun w => run_part_plain w h.p1 rfl
  have q2 : ∀ w, (part f.type #[.int k c, .int k' e] 0).run P w = .ok (.int k c) w := fun w => run_part_plain w h.p1 rfl
  have q3 : ∀ w, (part g.type #[.int k a, .int k' b] 1).run P w = .ok (.int k' b) w := fun w => run_part_plain w h.p2 rfl
  have q4 : ∀ w, (part g.type #[.int k c, .int k' e] 1).run P w = .ok (.int k' e) w := fun w => run_part_plain w h.p2 rfl
  have r1 : ∀ w, (Op.equalIn 9999 f.type (.int k a) (.int k c)).run P w = .ok (a == c) w := fun w => run_equalIn_int w 9998 _ _ _ _ _ h.u1
  have r2 : ∀ w, (Op.equalIn 9999 g.type (.int k' b) (.int k' e)).run P w = .ok (b == e) w := fun w => run_equalIn_int w 9998 _ _ _ _ _ h.u2
  simp only [Op.eqFields, h.n1, h.n2, ne_eq, not_false_eq_true, if_true, h.o1, h.o2, Sem.run_bind, q1, q2, q3, q4, r1, r2, Result.andThen_ok]
  by_cases h1 : a = c
  · have e1 : (a == c) = true := by simpa using h1
    by_cases h2 : b = e
    · have e2 : (b == e) = true := by simpa using h2
      have e3 : decide (a = c ∧ b = e) = true := by simp [h1, h2]
      rw [e3]
      simp [e1, e2, q3, q4, r2]
    · have e2 : (b == e) = false := by simpa using h2
      have e3 : decide (a = c ∧ b = e) = false := by simp [h1, h2]
      rw [e3]
      simp [e1, e2, q3, q4, r2]
  · simp [h1]

theorem L.eqP2 {t u : TypeId} {x y : Operand} {f g : Field} {k k' : IntKind} {a b c e : Int} (h2 : isP2 P t f g k k') (hx : ev σ x = some (.v (.g [.d (.i k a), .d (.i k' b)]))) (hy : ev σ y = some (.v (.g [.d (.i k c), .d (.i k' e)]))) (hdn : Nat.blt d n = true)
    (h : L P C n ops Q rest ((d, aB (decide (a = c ∧ b = e))) :: σ) Ω) : L P C n ops Q ({ dst := some d, op := .binOp .eql t x y u, type := ty, pos, after, guard := none } :: rest) σ Ω := by
  refine L.pure rfl rfl hdn (fun ac w hs ha => ?_) h
  obtain ⟨v, hv, us, rfl, hr⟩ := ha.val hx
  obtain ⟨v', hv', us', rfl, hr'⟩ := ha.val hy
  match us, hr with
  | [u1, u2], ⟨h3, h4, _⟩ =>
    match us', hr' with
    | [v1, v2], ⟨h5, h6, _⟩ =>
      obtain rfl : u1 = .int k a := by cases h3; rfl
      obtain rfl : u2 = .int k' b := by cases h4; rfl
      obtain rfl : v1 = .int k c := by cases h5; rfl
      obtain rfl : v2 = .int k' e := by cases h6; rfl
      refine ⟨.bool (decide (a = c ∧ b = e)), ?_, rB⟩
      have hg := run_eqGuard_agg w .eql t x y #[.int k a, .int k' b] #[.int k c, .int k' e] h2.guard
      have hp := run_p2 h2 a b c e w
      simp [execOp, hv, hv', hg, hp]

end
end Go.Q
