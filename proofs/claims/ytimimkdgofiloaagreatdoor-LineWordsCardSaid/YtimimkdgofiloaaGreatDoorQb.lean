/- The judgements: a list of operations, code, a function's contract; and the rules of control. -/
import Derived.Test.YtimimkdgofiloaaGreatDoorQa
import Derived.Deep.LoopGhost
namespace Go.Q
open Go

abbrev Env := List (Nat × AV)

structure Has (n : Nat) (ds : List Deferred) (Y : List Nat) (w : World) (a : Act) (σ : Env) : Prop where
  size : a.tmps.size = n
  defers : a.defers = ds
  get : ∀ d x, σ.lookup d = some x → ∃ v, a.tmps[d]? = some v ∧ Rav Y w v x

theorem Has.step {n : Nat} {ds : List Deferred} {Y Y' : List Nat} {w w' : World} {a : Act} {σ : Env} (h : Has n ds Y w a σ) (s : Step Y Y' w w') : Has n ds Y' w' a σ :=
  ⟨h.size, h.defers, fun d x hx => let ⟨v, h1, h2⟩ := h.get d x hx; ⟨v, h1, h2.step s⟩⟩

theorem Has.put {n : Nat} {ds : List Deferred} {Y : List Nat} {w : World} {a : Act} {σ : Env} (h : Has n ds Y w a σ) {d : Nat} (hd : d < n) {v : Value} {x : AV} (hv : Rav Y w v x) : Has n ds Y w (a.put (some d) v) ((d, x) :: σ) := by
  refine ⟨by simp [Act.put, h.size], by simp [Act.put, h.defers], fun d' x' hx => ?_⟩
  by_cases he : d' = d
  · subst he
    simp [List.lookup] at hx
    subst hx
    exact ⟨v, by simp [Act.put, h.size, hd], hv⟩
  · have hb : (d' == d) = false := by simpa using he
    simp only [List.lookup, hb] at hx
    obtain ⟨u, h1, h2⟩ := h.get d' x' hx
    exact ⟨u, by simp only [Act.put]; rw [Array.getElem?_setIfInBounds_ne (Ne.symm he)]; exact h1, h2⟩

theorem bltLt {d n : Nat} (h : Nat.blt d n = true) : d < n := by simpa using h

/-- The slots that a smaller list names hold the same. -/
def Sub (σ : Env) : Env → Prop
  | [] => True
  | (d, x) :: r => σ.lookup d = some x ∧ Sub σ r

theorem Sub.get {σ : Env} : ∀ {σ' : Env}, Sub σ σ' → ∀ {d : Nat} {x : AV}, σ'.lookup d = some x → σ.lookup d = some x
  | [], _, d, x, h => by simp at h
  | (d, x) :: r, ⟨h1, h2⟩, e, y, h => by
    by_cases he : e = d
    · subst he; simp [List.lookup] at h; subst h; exact h1
    · have hb : (e == d) = false := by simpa using he
      simp only [List.lookup, hb] at h
      exact h2.get h

theorem Has.sub {n : Nat} {ds : List Deferred} {Y : List Nat} {w : World} {a : Act} {σ σ' : Env} (h : Has n ds Y w a σ) (s : Sub σ σ') : Has n ds Y w a σ' :=
  ⟨h.size, h.defers, fun d x hx => h.get d x (s.get hx)⟩

/-- The abstract value of a constant. -/
def kCV : Value → CV
  | .int k n => .d (.i k n)
  | .bool b => .d (.b b)
  | .string s => .d (.s s)
  | v => .r v
def kAV : Value → AV
  | .agg us => .v (.g (us.toList.map kCV))
  | .tuple us => .t (us.toList.map fun u => .c (kCV u))
  | v => .v (.c (kCV v))

theorem kCV_ok {Y : List Nat} {w : World} {v : Value} (h : v.oneCell' = true) : Rcv Y w v (kCV v) := by
  cases v <;> first | exact Rc.i _ _ | exact Rc.b _ | exact Rc.s _ | exact ⟨rfl, h⟩

/-- The constants that occur: one cell, or a struct of such. -/
def okConst : Value → Bool
  | .agg us => us.toList.all Value.oneCell'
  | .tuple _ => false
  | _ => true

theorem all2_k {Y : List Nat} {w : World} : ∀ {l : List Value}, l.all Value.oneCell' = true → All2 (Rcv Y w) l (l.map kCV)
  | [], _ => trivial
  | a :: l, h => by
    simp only [List.all_cons, Bool.and_eq_true] at h
    exact ⟨kCV_ok h.1, all2_k h.2⟩

theorem kAV_ok {Y : List Nat} {w : World} {v : Value} (h : okConst v = true) : Rav Y w v (kAV v) := by
  cases v
  case agg us => exact ⟨us.toList, rfl, all2_k h⟩
  case tuple us => simp [okConst] at h
  all_goals (simp only [kAV, Rav, Rsv]; exact kCV_ok rfl)

def ev (σ : Env) : Operand → Option AV
  | .tmp t => σ.lookup t
  | .const v => if okConst v then some (kAV v) else none
  | .global g => some (.v (.c (.r (.pointer (some ⟨g, 0, none⟩)))))
  | .func f => some (.v (.c (.r (.func (.func f) #[] #[]))))

theorem Has.val {n : Nat} {ds : List Deferred} {Y : List Nat} {w : World} {a : Act} {σ : Env} (h : Has n ds Y w a σ) {x : Operand} {y : AV} (hx : ev σ x = some y) : ∃ v, a.eval x = v ∧ Rav Y w v y := by
  cases x with
  | tmp t =>
    obtain ⟨v, h1, h2⟩ := h.get t y hx
    exact ⟨v, by simp [Act.eval, h1], h2⟩
  | const v =>
    simp only [ev] at hx
    split at hx
    · rename_i hk
      simp only [Option.some.injEq] at hx
      subst hx
      exact ⟨v, rfl, kAV_ok hk⟩
    · simp at hx
  | global g =>
    simp only [ev, Option.some.injEq] at hx
    subst hx
    exact ⟨_, rfl, rfl, rfl⟩
  | func f =>
    simp only [ev, Option.some.injEq] at hx
    subst hx
    exact ⟨_, rfl, rfl, rfl⟩

section
variable {P : Program} {C : Ctx} {n : Nat}

abbrev Pst := Exit → Act → World → Prop

/-- A list of operations, from what slots hold and what is owned. -/
def L (P : Program) (C : Ctx) (n : Nat) (ops : Array Oper) (Q : Pst) (rest : List Oper) (σ : Env) (Ω : List Ob) : Prop :=
  ∀ a w, St C Ω w → Has n C.ds (owns Ω ++ C.X) w a σ → wpListIn C.F 0 P ops Q rest a w

/-- Code. -/
def T (P : Program) (C : Ctx) (n : Nat) (Q : Pst) (c : Code) (σ : Env) (Ω : List Ob) : Prop :=
  ∀ a w, St C Ω w → Has n C.ds (owns Ω ++ C.X) w a σ → c.wpIn C.F 0 P Q a w

/-- A place to which the run comes. -/
def G (C : Ctx) (n : Nat) (K : Act → World → Prop) (σ : Env) (Ω : List Ob) : Prop :=
  ∀ a w, St C Ω w → Has n C.ds (owns Ω ++ C.X) w a σ → K a w

variable {ops : Array Oper} {Q : Pst} {rest : List Oper} {σ σ' : Env} {Ω Ω' : List Ob} {o : Oper}

theorem T.of_seq {x y : Code} (h : T P C n (Exit.then (fun a w => y.wpIn C.F 0 P Q a w) Q) x σ Ω) : T P C n Q (.seq x y) σ Ω :=
  fun a w hs ha => wpIn_seq (h a w hs ha)

theorem T.region {id : Nat} {l : List Oper} (h : L P C n l.toArray Q l σ Ω) : T P C n Q (.region id l.toArray false) σ Ω :=
  fun a w hs ha => wpIn_region_lit (h a w hs ha)

/-- A region, and what comes behind it. -/
theorem T.rg {id : Nat} {l : List Oper} {y : Code} (h : L P C n l.toArray (Exit.then (fun a w => y.wpIn C.F 0 P Q a w) Q) l σ Ω) : T P C n Q (.seq (.region id l.toArray false) y) σ Ω :=
  T.of_seq (T.region h)

theorem L.nil {y : Code} (h : T P C n Q y σ Ω) : L P C n ops (Exit.then (fun a w => y.wpIn C.F 0 P Q a w) Q) [] σ Ω :=
  fun a w hs ha => wpListIn_nil (h a w hs ha)

theorem L.last (h : G C n (Q .normal) σ Ω) : L P C n ops Q [] σ Ω :=
  fun a w hs ha => wpListIn_nil (h a w hs ha)

theorem T.go {K : Act → World → Prop} {c : Code} (hK : ∀ a w, c.wpIn C.F 0 P Q a w → K a w) (h : T P C n Q c σ Ω) : G C n K σ Ω :=
  fun a w hs ha => hK a w (h a w hs ha)

theorem T.skip (h : G C n (Q .normal) σ Ω) : T P C n Q .skip σ Ω := fun a w hs ha => wpIn_skip (h a w hs ha)
theorem T.exit {id : Nat} (h : G C n (Q (.exit id)) σ Ω) : T P C n Q (.exit id) σ Ω := fun a w hs ha => wpIn_exit (h a w hs ha)
theorem T.ret (h : G C n (Q .ret) σ Ω) : T P C n Q .ret σ Ω := fun a w hs ha => wpIn_ret (h a w hs ha)
theorem T.block {id : Nat} {c : Code} (h : T P C n (Exit.inBlock id Q) c σ Ω) : T P C n Q (.block id c) σ Ω := fun a w hs ha => wpIn_block (h a w hs ha)

/-- A branch on a bool that a slot holds. -/
theorem T.cond {t : Nat} {x y : Code} {b : Bool} (hb : σ.lookup t = some (.v (.c (.d (.b b))))) (h1 : b = true → T P C n Q x σ Ω) (h2 : b = false → T P C n Q y σ Ω) : T P C n Q (.cond (.tmp t) x y) σ Ω := by
  intro a w hs ha
  obtain ⟨v, hv, hr⟩ := ha.get t _ hb
  have hr' : Rc (owns Ω ++ C.X) w v (.b b) := hr
  cases hr'
  exact wpIn_cond_split (by simp [Act.eval, hv]) (fun e => h1 e a w hs ha) (fun e => h2 e a w hs ha)

/-- A loop: an invariant that bears a number, which each round lowers. -/
theorem T.loop {c : Code} (I : Nat → Env → List Ob → Prop) (m : Nat) (σ₀ : Env) (h0 : I m σ₀ Ω) (hsub : Sub σ σ₀)
    (round : ∀ m σ Ω, I m σ Ω → T P C n (Exit.then (fun a w => ∃ m' σ' Ω', m' < m ∧ I m' σ' Ω' ∧ St C Ω' w ∧ Has n C.ds (owns Ω' ++ C.X) w a σ') Q) c σ Ω) : T P C n Q (.loop c) σ Ω := by
  intro a w hs ha
  refine wpIn_loop_ghost (fun m a w => ∃ σ' Ω', I m σ' Ω' ∧ St C Ω' w ∧ Has n C.ds (owns Ω' ++ C.X) w a σ') m ⟨σ₀, Ω, h0, hs, ha.sub hsub⟩ ?_
  rintro m a w ⟨σ', Ω', hI, hs', ha'⟩
  refine wpIn_mono (round m σ' Ω' hI a w hs' ha') ?_
  intro e a w hq
  cases e with
  | normal =>
    obtain ⟨m', σ', Ω', hm, hI', hs', ha'⟩ := hq
    exact ⟨m', hm, σ', Ω', hI', hs', ha'⟩
  | exit id => exact hq
  | goto l => exact hq
  | ret => exact hq
  | panic ch => exact hq
  | outgrown => exact hq

/-- The round's end. -/
theorem G.round {I : Nat → Env → List Ob → Prop} {m : Nat} (m' : Nat) (σ' : Env) (hm : m' < m) (hI : I m' σ' Ω) (hsub : Sub σ σ') :
    G C n (fun a w => ∃ m' σ' Ω', m' < m ∧ I m' σ' Ω' ∧ St C Ω' w ∧ Has n C.ds (owns Ω' ++ C.X) w a σ') σ Ω :=
  fun _ _ hs ha => ⟨m', σ', Ω, hm, hI, hs, ha.sub hsub⟩

theorem T.sub {c : Code} (s : Sub σ σ') (h : T P C n Q c σ' Ω) : T P C n Q c σ Ω := fun a w hs ha => h a w hs (ha.sub s)
theorem L.sub (s : Sub σ σ') (h : L P C n ops Q rest σ' Ω) : L P C n ops Q rest σ Ω := fun a w hs ha => h a w hs (ha.sub s)

/-- Where ways meet: what holds there is said. -/
theorem T.cut {x y : Code} (I : Env → List Ob → Prop) (hy : ∀ σ Ω, I σ Ω → T P C n Q y σ Ω)
    (hx : T P C n (Exit.then (fun a w => ∃ σ' Ω', I σ' Ω' ∧ St C Ω' w ∧ Has n C.ds (owns Ω' ++ C.X) w a σ') Q) x σ Ω) : T P C n Q (.seq x y) σ Ω := by
  refine T.of_seq fun a w hs ha => wpIn_mono (hx a w hs ha) ?_
  intro e a w hq
  cases e with
  | normal => obtain ⟨σ', Ω', hI, hs', ha'⟩ := hq; exact hy σ' Ω' hI a w hs' ha'
  | exit id => exact hq
  | goto l => exact hq
  | ret => exact hq
  | panic ch => exact hq
  | outgrown => exact hq

theorem G.cut {I : Env → List Ob → Prop} (σ' : Env) (hI : I σ' Ω) (hsub : Sub σ σ') : G C n (fun a w => ∃ σ' Ω', I σ' Ω' ∧ St C Ω' w ∧ Has n C.ds (owns Ω' ++ C.X) w a σ') σ Ω :=
  fun _ _ hs ha => ⟨σ', Ω, hI, hs, ha.sub hsub⟩

/-! ### A function's contract -/

/-- Called with such arguments, owning Ω: it returns; what it returns and what there is then is as R says; nothing else has changed. -/
def Fc (P : Program) (f : FuncId) (as : List SV) (Ω : List Ob) (R : AV → List Ob → Prop) : Prop :=
  ∀ (X : List Nat) (w : World) (args : List Value), St ⟨X, owns Ω, w, none, []⟩ Ω w → All2 (Rsv (owns Ω ++ X) w) args as →
    Calls P f args.toArray w fun e w' => ∃ v x Ω', e = .returned v ∧ R x Ω' ∧ St ⟨X, owns Ω, w, none, []⟩ Ω' w' ∧ Rav (owns Ω' ++ X) w' v x

theorem Fc.mono {f : FuncId} {as : List SV} {R R' : AV → List Ob → Prop} (h : Fc P f as Ω R) (hR : ∀ x Ω', R x Ω' → R' x Ω') : Fc P f as Ω R' :=
  fun X w args hs ha => (h X w args hs ha).mono fun _ _ ⟨v, x, Ω', h1, h2, h3⟩ => ⟨v, x, Ω', h1, hR _ _ h2, h3⟩

/-- The slots of a call's arguments. -/
def argEnv : Nat → List SV → Env
  | _, [] => []
  | k, a :: as => (k, .v a) :: argEnv (k + 1) as

theorem argEnv_get {Y : List Nat} {w : World} {tmps : Array Value} : ∀ (args : List Value) (as : List SV) (k : Nat), (∀ i v, args[i]? = some v → tmps[k + i]? = some v) → All2 (Rsv Y w) args as →
    ∀ d x, (argEnv k as).lookup d = some x → ∃ v, tmps[d]? = some v ∧ Rav Y w v x
  | [], [], _, _, _, _, _, h => by simp [argEnv] at h
  | v :: vs, a :: as, k, hv, ⟨h1, h2⟩, d, x, h => by
    by_cases he : d = k
    · subst he
      simp [argEnv] at h
      subst h
      exact ⟨v, by simpa using hv 0 v rfl, h1⟩
    · have hb : (d == k) = false := by simpa using he
      simp only [argEnv, List.lookup, hb] at h
      exact argEnv_get vs as (k + 1) (fun i u hu => by have := hv (i + 1) u (by simpa using hu); rwa [show k + (i + 1) = k + 1 + i by omega] at this) h2 d x h
  | [], _ :: _, _, _, h2, _, _, _ => h2.elim
  | _ :: _, [], _, _, h2, _, _, _ => h2.elim

/-- The end of a body. -/
def Post (P : Program) (fn : Func) (C : Ctx) (R : AV → List Ob → Prop) : Pst :=
  bodyPostM Fence.wide 0 P fn fun e w' => ∃ v x Ω', e = .returned v ∧ R x Ω' ∧ St C Ω' w' ∧ Rav (owns Ω' ++ C.X) w' v x

theorem Fc.enter {f : FuncId} {fn : Func} {c : Code} {as : List SV} {R : AV → List Ob → Prop} (hf : P.funcs[f]? = some fn) (hb : fn.body = some c) {n : Nat} (hn : fn.ntmps = n) (hsz : Nat.ble as.length n = true)
    (h : ∀ X w, T P ⟨X, owns Ω, w, none, []⟩ n (Post P fn ⟨X, owns Ω, w, none, []⟩ R) c (argEnv 0 as) Ω) : Fc P f as Ω R := by
  intro X w args hs ha
  refine callsIn_wide.1 (callsIn_of_wp_marks (F := Fence.wide) (n := 0) hf hb trivial (h X w _ w hs ⟨?_, rfl, ?_⟩))
  · have := ha.length
    have hle : as.length ≤ n := by simpa using hsz
    simp [hn]
    omega
  · refine argEnv_get args as 0 (fun i v hv => ?_) ha
    have hi : i < args.length := (List.getElem?_eq_some_iff.1 hv).1
    rw [Nat.zero_add, Array.getElem?_append_left (by simpa using hi)]
    simpa using hv

theorem leaves_nil {fn : Func} {a : Act} {w : World} {R : Ending → World → Prop} (hd : a.defers = []) (h : ∃ v, (results fn a.tmps).run P w = .ok v w ∧ R (.returned v) w) : LeavesInM Fence.wide 0 P fn a.tmps R a.defers .returning w := by
  rw [hd]
  exact h

/-- The results, out of the slots. -/
theorem G.ret {fn : Func} {R : AV → List Ob → Prop} {x : AV} (hres : ∀ a w, St C Ω w → Has n C.ds (owns Ω ++ C.X) w a σ → ∃ v, (results fn a.tmps).run P w = .ok v w ∧ Rav (owns Ω ++ C.X) w v x) (hR : R x Ω) (hds : C.ds = [] := by rfl) :
    G C n (Post P fn C R .ret) σ Ω := by
  intro a w hs ha
  obtain ⟨v, h1, h2⟩ := hres a w hs ha
  exact leaves_nil (ha.defers.trans hds) ⟨v, h1, v, x, Ω, rfl, hR, hs, h2⟩

theorem G.end {fn : Func} {R : AV → List Ob → Prop} {x : AV} (hres : ∀ a w, St C Ω w → Has n C.ds (owns Ω ++ C.X) w a σ → ∃ v, (results fn a.tmps).run P w = .ok v w ∧ Rav (owns Ω ++ C.X) w v x) (hR : R x Ω) (hds : C.ds = [] := by rfl) :
    G C n (Post P fn C R .normal) σ Ω := by
  intro a w hs ha
  obtain ⟨v, h1, h2⟩ := hres a w hs ha
  exact leaves_nil (ha.defers.trans hds) ⟨v, h1, v, x, Ω, rfl, hR, hs, h2⟩

theorem res0 {fn : Func} (hr : fn.results = #[]) : ∀ a w, St C Ω w → Has n C.ds (owns Ω ++ C.X) w a σ → ∃ v, (results fn a.tmps).run P w = .ok v w ∧ Rav (owns Ω ++ C.X) w v (.t []) :=
  fun _ _ _ _ => ⟨_, results_none hr _ _ _, [], rfl, trivial⟩

theorem res1 {fn : Func} {t : Nat} {x : AV} (hr : fn.results = #[.tmp t]) (ht : σ.lookup t = some x) :
    ∀ a w, St C Ω w → Has n C.ds (owns Ω ++ C.X) w a σ → ∃ v, (results fn a.tmps).run P w = .ok v w ∧ Rav (owns Ω ++ C.X) w v x := by
  intro a w _ ha
  obtain ⟨v, h1, h2⟩ := ha.get t x ht
  exact ⟨v, by rw [results_tmp hr]; simp [h1], h2⟩

theorem res2 {fn : Func} {t u : Nat} {x y : SV} (hr : fn.results = #[.tmp t, .tmp u]) (ht : σ.lookup t = some (.v x)) (hu : σ.lookup u = some (.v y)) :
    ∀ a w, St C Ω w → Has n C.ds (owns Ω ++ C.X) w a σ → ∃ v, (results fn a.tmps).run P w = .ok v w ∧ Rav (owns Ω ++ C.X) w v (.t [x, y]) := by
  intro a w _ ha
  obtain ⟨v, h1, h2⟩ := ha.get t _ ht
  obtain ⟨v', h1', h2'⟩ := ha.get u _ hu
  exact ⟨_, by rw [results_tmp2 hr], [v, v'], by simp [h1, h1'], h2, h2', trivial⟩

theorem res3 {fn : Func} {t u s : Nat} {x y z : SV} (hr : fn.results = #[.tmp t, .tmp u, .tmp s]) (ht : σ.lookup t = some (.v x)) (hu : σ.lookup u = some (.v y)) (hz : σ.lookup s = some (.v z)) :
    ∀ a w, St C Ω w → Has n C.ds (owns Ω ++ C.X) w a σ → ∃ v, (results fn a.tmps).run P w = .ok v w ∧ Rav (owns Ω ++ C.X) w v (.t [x, y, z]) := by
  intro a w _ ha
  obtain ⟨v, h1, h2⟩ := ha.get t _ ht
  obtain ⟨v', h1', h2'⟩ := ha.get u _ hu
  obtain ⟨v'', h1'', h2''⟩ := ha.get s _ hz
  exact ⟨_, by rw [results_tmp3 hr], [v, v', v''], by simp [h1, h1', h1''], h2, h2', h2'', trivial⟩

/-! ### Operations in general -/
/-- Without a guard, and no defer statement. -/
def plainOp (o : Oper) : Bool := o.guard.isNone && (match o.op with
  | .defer _ => false
  | _ => true)
theorem plainOp_guard {o : Oper} (h : plainOp o = true) : o.guard = none := by
  unfold plainOp at h
  simp only [Bool.and_eq_true] at h
  exact Option.isNone_iff_eq_none.1 h.1
theorem plainOp_sem {o : Oper} (h : plainOp o = true) (C : Ctx) (ρ : Operand → Value) : o.semAt C.F.round ρ = execOp ρ o := by
  refine Oper.semAt_plain C.F ρ o fun c hc => ?_
  unfold plainOp at h
  simp [hc] at h
theorem Ctx.about {C : Ctx} {o : Oper} {w : World} {ρ : Operand → Value} : ∀ f, o.about P w ρ = some f → C.F.fn f := fun _ _ => trivial


/-- An operation that yields a value. -/
theorem L.val {d : Nat} {x : AV} (hg : plainOp o = true) (hd : o.dst = some d) (hdn : Nat.blt d n = true)
    (run : ∀ a w, St C Ω w → Has n C.ds (owns Ω ++ C.X) w a σ → ∃ v w', (execOp a.eval o).run P w = .ok (.value v) w' ∧ St C Ω' w' ∧ Step (owns Ω ++ C.X) (owns Ω' ++ C.X) w w' ∧ Rav (owns Ω' ++ C.X) w' v x)
    (h : L P C n ops Q rest ((d, x) :: σ) Ω') : L P C n ops Q (o :: rest) σ Ω := by
  intro a w hs ha
  obtain ⟨v, w', hr, hs', st, hv⟩ := run a w hs ha
  refine wpListIn_plain (plainOp_guard hg) fun K hK => ⟨Ctx.about, ?_⟩
  rw [plainOp_sem hg, hr, Oper.uponIn_value, hd]
  exact hK _ _ (h _ _ hs' ((ha.step st).put (bltLt hdn) hv))

/-- An operation that only computes. -/
theorem L.pure {d : Nat} {x : AV} (hg : plainOp o = true) (hd : o.dst = some d) (hdn : Nat.blt d n = true)
    (run : ∀ a w, St C Ω w → Has n C.ds (owns Ω ++ C.X) w a σ → ∃ v, (execOp a.eval o).run P w = .ok (.value v) w ∧ Rav (owns Ω ++ C.X) w v x)
    (h : L P C n ops Q rest ((d, x) :: σ) Ω) : L P C n ops Q (o :: rest) σ Ω :=
  L.val hg hd hdn (fun a w hs ha => let ⟨v, h1, h2⟩ := run a w hs ha; ⟨v, w, h1, hs, Step.refl _ _, h2⟩) h

/-- An operation that yields none. -/
theorem L.act (hg : plainOp o = true) (hd : o.dst = none)
    (run : ∀ a w, St C Ω w → Has n C.ds (owns Ω ++ C.X) w a σ → ∃ w', (execOp a.eval o).run P w = .ok .skip w' ∧ St C Ω' w' ∧ Step (owns Ω ++ C.X) (owns Ω' ++ C.X) w w')
    (h : L P C n ops Q rest σ Ω') : L P C n ops Q (o :: rest) σ Ω := by
  intro a w hs ha
  obtain ⟨w', hr, hs', st⟩ := run a w hs ha
  refine wpListIn_plain (plainOp_guard hg) fun K hK => ⟨Ctx.about, ?_⟩
  rw [plainOp_sem hg, hr, Oper.uponIn_skip, hd]
  exact hK _ _ (h _ _ hs' (ha.step st))

theorem wpListIn_off {a : Act} {w : World} (hw : Region.wanted o (yielded ops a.tmps) = false) (h : wpListIn C.F 0 P ops Q rest (a.put o.dst undef) w) : wpListIn C.F 0 P ops Q (o :: rest) a w := by
  simp only [wpListIn, hw]
  exact ⟨Ctx.about, h⟩

/-- A guard that says yes. -/
theorem L.on {dst : Option Nat} {op : Op} {ty : TypeId} {pos : String} {after : Array Edge} {j dj : Nat} {b : Bool} (hj : (ops[j]?).bind (·.dst) = some dj) (hb : σ.lookup dj = some (.v (.c (.d (.b b)))))
    (h : L P C n ops Q ({ dst, op, type := ty, pos, after, guard := none } :: rest) σ Ω) : L P C n ops Q ({ dst, op, type := ty, pos, after, guard := some (j, b) } :: rest) σ Ω := by
  intro a w hs ha
  obtain ⟨v, hv, hr⟩ := ha.get dj _ hb
  have hr' : Rc (owns Ω ++ C.X) w v (.b b) := hr
  cases hr'
  have h' := h a w hs ha
  have hw : Region.wanted { dst, op, type := ty, pos, after, guard := some (j, b) } (yielded ops a.tmps) = true := by
    simp [Region.wanted, yielded, hj, hv]
  have hw' : Region.wanted { dst, op, type := ty, pos, after, guard := none } (yielded ops a.tmps) = true := rfl
  simp only [wpListIn, hw, hw'] at h' ⊢
  exact h'

/-- A guard that says no. -/
theorem L.off {d : Nat} {op : Op} {ty : TypeId} {pos : String} {after : Array Edge} {j dj : Nat} {b b' : Bool} (hj : (ops[j]?).bind (·.dst) = some dj) (hb : σ.lookup dj = some (.v (.c (.d (.b b'))))) (hne : (b' == b) = false) (hdn : Nat.blt d n = true)
    (h : L P C n ops Q rest ((d, .t []) :: σ) Ω) : L P C n ops Q ({ dst := some d, op, type := ty, pos, after, guard := some (j, b) } :: rest) σ Ω := by
  intro a w hs ha
  obtain ⟨v, hv, hr⟩ := ha.get dj _ hb
  have hr' : Rc (owns Ω ++ C.X) w v (.b b') := hr
  cases hr'
  refine wpListIn_off ?_ (h _ _ hs (ha.put (bltLt hdn) ⟨[], rfl, trivial⟩))
  simp [Region.wanted, yielded, hj, hv]
  intro e; subst e; simp at hne

end
end Go.Q
