/- Maps: a key laid in anew or again. Panics: contracts of functions that return or panic. Interfaces made of structs of numbers. -/
import Derived.Test.YtimimkdgofiloaaGreatDoorQx
import Derived.RecoverIn
namespace Go.Q
open Go Go.ChangeMaps Go.MapKept

/-! ### m[k] = v, whatever there is -/
def putV : List (ByteArray × SV) → ByteArray → SV → List (ByteArray × SV)
  | [], k, s => [(k, s)]
  | p :: ps, k, s => if p.1 = k then (k, s) :: ps else p :: putV ps k s
theorem putV_new : ∀ {ps : List (ByteArray × SV)} {k : ByteArray} {s : SV}, lookV ps k = none → putV ps k s = ps ++ [(k, s)]
  | [], _, _, _ => rfl
  | p :: ps, k, s, h => by
    unfold lookV at h
    split at h
    · cases h
    · rename_i hne
      unfold putV
      rw [if_neg hne, putV_new h]; rfl
theorem findNow_ix (k : ByteArray) (s : SV) : ∀ (ps : List (ByteArray × SV)) (j i : Nat), lookV ps k ≠ none → ∃ (m : Nat) (v : Value), Instr.findNow .string (.string k) ((ps.zipIdx j).map fun q => (⟨.string q.1.1, svV q.1.2, q.2⟩ : MapEntry)) i = some (some (i + m, v)) ∧ m < ps.length ∧ (ps[m]?).map (·.1) = some k ∧ putV ps k s = ps.set m (k, s)
  | [], _, _, h => absurd rfl h
  | p :: ps, j, i, h => by
    simp only [List.zipIdx_cons, List.map_cons, Instr.findNow, Instr.sameNow]
    have hbe : (k == p.1) = decide (p.1 = k) := by
      by_cases h : p.1 = k
      · rw [decide_eq_true h, (bytes_beq k p.1).2 h.symm]
      · rw [decide_eq_false h]
        exact Bool.eq_false_iff.2 fun e => h ((bytes_beq k p.1).1 e).symm
    rw [hbe]
    unfold lookV at h
    by_cases he : p.1 = k
    · rw [decide_eq_true he]
      refine ⟨0, _, rfl, Nat.zero_lt_succ _, by simp [he], ?_⟩
      unfold putV; rw [if_pos he]; rfl
    · rw [decide_eq_false he]
      rw [if_neg he] at h
      obtain ⟨m, v, h1, h2, h3, h4⟩ := findNow_ix k s ps (j + 1) (i + 1) h
      refine ⟨m + 1, v, ?_, Nat.succ_lt_succ h2, by simpa using h3, ?_⟩
      · simpa [Nat.add_assoc, Nat.add_comm 1 m] using h1
      · unfold putV; rw [if_neg he, h4]; rfl
theorem mapE_set {ps : List (ByteArray × SV)} {m : Nat} {k : ByteArray} {s : SV} (hm : m < ps.length) : ((mapE ps).modify m fun e => { e with key := .string k, val := svV s }) = mapE (ps.set m (k, s)) := by
  unfold mapE
  rw [List.modify_toArray]
  congr 1
  refine List.ext_getElem? fun i => ?_
  by_cases hi : i = m
  · subst hi
    simp [hm]
  · simp [Ne.symm hi]

section
variable {P : Program} {C : Ctx} {n : Nat} {ops : Array Oper} {Q : Pst} {rest : List Oper} {σ σ' : Env} {Ω Ω' : List Ob} {d : Nat} {ty : TypeId} {pos : String} {after : Array Edge}

theorem run_mapUpdate_any {t kt e : TypeId} {w : World} {g : Nat} {ps : List (ByteArray × SV)} {k : ByteArray} {s : SV} (ht : P.underlying t = some (.map kt e)) (hk : P.underlying kt = some .string) (hg : w.heap[g]? = some (.map (mapE ps) ps.length)) :
    (Instr.mapUpdate t (.map (some g)) (.string k) (svV s)).run P w = .ok () (setBlock w g (.map (mapE (putV ps k s)) (putV ps k s).length)) := by
  by_cases hno : lookV ps k = none
  · have := run_mapUpdate_new (P := P) (v := svV s) ht hk hg hno
    rw [mapE_push] at this
    rw [putV_new hno, this]; simp
  · obtain ⟨m, v, h1, h2, h3, h4⟩ := findNow_ix k s ps 0 0 hno
    rw [Nat.zero_add] at h1
    have hf : (Instr.findKey kt (.string k) (mapE ps).toList).run P w = .ok (some (m, v)) w := by
      obtain ⟨r, h5, _⟩ := run_findKey_str (P := P) hk k ps w
      have := h5
      simp only [Instr.findKey, Sem.run_bind, run_underlying hk, Result.andThen] at this ⊢
      have h6 : Instr.findNow .string (.string k) (mapE ps).toList 0 = some (some (m, v)) := by simpa [mapE] using h1
      simp only [h6] at this ⊢
      simp
    have hkey : (((mapE ps)[m]?).map (·.key)).getD (.string k) = .string k := by
      have : (mapE ps)[m]? = (ps[m]?).map fun p => (⟨.string p.1, svV p.2, m⟩ : MapEntry) := by simp [mapE, Function.comp_def]
      rw [this]
      cases hp : ps[m]? with
      | none => rfl
      | some p => rw [hp] at h3; simp only [Option.map_some, Option.some.injEq] at h3; simp [h3]
    have hst : (Instr.keyThatStays (.string k) (.string k)).run P w = .ok (.string k) w := by
      have : Instr.sameBits 10000 (.string k) (.string k) = true := by
        show (k == k) = true
        exact (bytes_beq k k).2 rfl
      simp [Instr.keyThatStays, this]
    simp only [Instr.mapUpdate, Sem.run_bind, run_underlying ht, Result.andThen, getObj, Sem.run, hg, run_checkKey_str hk, hf, hkey, hst]
    rw [mapE_set h2, ← h4]
    rw [run_setObj_raw hg _ (fun _ _ _ h => by cases h)]
    have : (putV ps k s).length = ps.length := by rw [h4]; simp
    rw [this]

theorem L.mapUp {t kt e : TypeId} {m k v : Operand} {g : Nat} {key : ByteArray} {s : SV} {ps : List (ByteArray × SV)} {Ω' : List Ob} (i : Nat) (ht : P.underlying t = some (.map kt e)) (hk : P.underlying kt = some .string) (hm : ev σ m = some (aR (.map (some g)))) (hkey : ev σ k = some (aS key)) (hv : ev σ v = some (.v s))
    (hok : okSV s = true) (hi : Ω[i]? = some (mapB g ps)) (hΩ : setL Ω i (mapB g (putV ps key s)) = some Ω')
    (h : L P C n ops Q rest σ Ω') : L P C n ops Q ({ dst := none, op := .mapUpdate t m k v, type := ty, pos, after, guard := none } :: rest) σ Ω := by
  obtain ⟨A, B, rfl, rfl⟩ := (setAt_of hΩ).split hi
  refine L.act rfl rfl (fun a w hs ha => ?_) h
  obtain ⟨u, hu, hr⟩ := ha.val hv
  have hu' : u = svV s := svV_eq hok hr
  subst hu'
  have hg : w.heap[g]? = some (.map (mapE ps) ps.length) := hs.obs (mapB g ps) (by simp)
  have hlt : g < w.heap.size := (Array.getElem?_eq_some_iff.1 hg).1
  have hgo := hs.setRaw (w' := setBlock w g (.map (mapE (putV ps key s)) (putV ps key s).length)) (x' := .map (mapE (putV ps key s)) (putV ps key s).length) rfl rfl rfl (by simp [setBlock]) (fun r hr => by simp [setBlock, Ne.symm hr]) (by simp [setBlock, hlt])
  refine ⟨_, ?_, hgo.1, hgo.2⟩
  have := run_mapUpdate_any (P := P) (k := key) (s := s) ht hk hg
  simp [execOp, ha.raw hm, ha.str hkey, hu, this]
end

/-! ### Panics -/
theorem dropAllQ {C : Ctx} : ∀ (Ω : List Ob), ∀ w, St C Ω w → St C [] w ∧ Step (owns Ω ++ C.X) (owns [] ++ C.X) w w
  | [], _, hs => ⟨hs, Step.refl _ _⟩
  | o :: Ω, w, hs => let ⟨h1, h2⟩ := St.drop (A := []) (o := o) (B := Ω) hs; let ⟨h3, h4⟩ := dropAllQ Ω w h1; ⟨h3, h2.trans h4⟩

abbrev pan (u : Value) : List PanicEntry := [{ v := u, recovered := false }]

/-- Called with such arguments, owning Ω: it returns as R says, or it panics with a value as E says. -/
def FcP (P : Program) (f : FuncId) (as : List SV) (Ω : List Ob) (R : AV → List Ob → Prop) (E : Value → Prop) : Prop :=
  ∀ (X : List Nat) (w : World) (args : List Value), St ⟨X, owns Ω, w, none, []⟩ Ω w → All2 (Rsv (owns Ω ++ X) w) args as →
    Calls P f args.toArray w fun e w' => (∃ v x Ω', e = .returned v ∧ R x Ω' ∧ St ⟨X, owns Ω, w, none, []⟩ Ω' w' ∧ Rav (owns Ω' ++ X) w' v x) ∨ ∃ u, e = .panicked (pan u) ∧ E u ∧ St ⟨X, owns Ω, w, none, []⟩ [] w'

theorem FcP.mono {P : Program} {f : FuncId} {as : List SV} {Ω : List Ob} {R R' : AV → List Ob → Prop} {E E' : Value → Prop} (h : FcP P f as Ω R E) (hR : ∀ x Ω', R x Ω' → R' x Ω') (hE : ∀ u, E u → E' u) : FcP P f as Ω R' E' :=
  fun X w args hs ha => (h X w args hs ha).mono fun _ _ h => h.imp (fun ⟨v, x, Ω', h1, h2, h3⟩ => ⟨v, x, Ω', h1, hR _ _ h2, h3⟩) fun ⟨u, h1, h2, h3⟩ => ⟨u, h1, hE u h2, h3⟩

/-- The end of a body that may panic. -/
def PostP (P : Program) (fn : Func) (C : Ctx) (R : AV → List Ob → Prop) (E : Value → Prop) : Pst :=
  bodyPostM Fence.wide 0 P fn fun e w' => (∃ v x Ω', e = .returned v ∧ R x Ω' ∧ St C Ω' w' ∧ Rav (owns Ω' ++ C.X) w' v x) ∨ ∃ u, e = .panicked (pan u) ∧ E u ∧ St C [] w'

theorem FcP.enter {P : Program} {f : FuncId} {fn : Func} {c : Code} {as : List SV} {Ω : List Ob} {R : AV → List Ob → Prop} {E : Value → Prop} (hf : P.funcs[f]? = some fn) (hb : fn.body = some c) {n : Nat} (hn : fn.ntmps = n) (hsz : Nat.ble as.length n = true)
    (h : ∀ X w, T P ⟨X, owns Ω, w, none, []⟩ n (PostP P fn ⟨X, owns Ω, w, none, []⟩ R E) c (argEnv 0 as) Ω) : FcP P f as Ω R E := by
  intro X w args hs ha
  refine callsIn_wide.1 (callsIn_of_wp_marks (F := Fence.wide) (n := 0) hf hb trivial (h X w _ w hs ⟨?_, rfl, ?_⟩))
  · have := ha.length
    have hle : as.length ≤ n := by simpa using hsz
    simp [hn]
    omega
  · refine argEnv_get args as 0 (fun i v hv => ?_) ha
    have hi : i < args.length := (List.getElem?_eq_some_iff.1 hv).1
    rw [Nat.zero_add, Array.getElem?_append_left (by simpa using hi)]
    simpa using hv

section
variable {P : Program} {C : Ctx} {n : Nat} {ops : Array Oper} {Q : Pst} {rest : List Oper} {σ σ' : Env} {Ω Ω' A B : List Ob} {d : Nat} {ty : TypeId} {pos : String} {after : Array Edge}

/-- A return of a body that may panic. -/
theorem G.toP {fn : Func} {R : AV → List Ob → Prop} {E : Value → Prop} (h : G C n (Post P fn C R .ret) σ Ω) (hds : C.ds = [] := by rfl) : G C n (PostP P fn C R E .ret) σ Ω := by
  intro a w hs ha
  have h1 := h a w hs ha
  have hd : a.defers = [] := ha.defers.trans hds
  unfold Post bodyPostM at h1
  unfold PostP bodyPostM
  simp only [hd] at h1 ⊢
  obtain ⟨v, h2, h3⟩ := h1
  exact ⟨v, h2, .inl h3⟩
theorem G.toPE {fn : Func} {R : AV → List Ob → Prop} {E : Value → Prop} (h : G C n (Post P fn C R .normal) σ Ω) (hds : C.ds = [] := by rfl) : G C n (PostP P fn C R E .normal) σ Ω := by
  intro a w hs ha
  have h1 := h a w hs ha
  have hd : a.defers = [] := ha.defers.trans hds
  unfold Post bodyPostM at h1
  unfold PostP bodyPostM
  simp only [hd] at h1 ⊢
  obtain ⟨v, h2, h3⟩ := h1
  exact ⟨v, h2, .inl h3⟩
/-- A panic leaves the body: all that is owned is let go. -/
theorem G.pan {fn : Func} {R : AV → List Ob → Prop} {E : Value → Prop} {u : Value} (hE : E u) (hds : C.ds = [] := by rfl) : G C n (PostP P fn C R E (.panic (pan u))) σ Ω := by
  intro a w hs ha
  have hd : a.defers = [] := ha.defers.trans hds
  unfold PostP bodyPostM
  simp only [hd]
  exact .inr ⟨u, rfl, hE, (dropAllQ Ω w hs).1⟩

theorem L.enterP {o : Oper} {f : FuncId} {as : List SV} {Ω1 : List Ob} {R : AV → List Ob → Prop} {E : Value → Prop} (hg : plainOp o = true) (hd : ∃ d, o.dst = some d ∧ d < n ∧ ∀ x Ω', R x Ω' → L P C n ops Q rest ((d, x) :: σ) (A ++ Ω' ++ B))
    (run : ∀ a w, St C (A ++ Ω1 ++ B) w → Has n C.ds (owns (A ++ Ω1 ++ B) ++ C.X) w a σ → ∃ args : List Value, (execOp a.eval o).run P w = .ok (.enter f args.toArray) w ∧ All2 (Rsv (owns (A ++ Ω1 ++ B) ++ C.X) w) args as)
    (hF : FcP P f as Ω1 R E) (hP : ∀ u, E u → G C n (Q (.panic (pan u))) σ (A ++ B)) : L P C n ops Q (o :: rest) σ (A ++ Ω1 ++ B) := by
  intro a w hs ha
  obtain ⟨args, hr, hargs⟩ := run a w hs ha
  refine wpListIn_plain (plainOp_guard hg) fun K hK => ⟨Ctx.about, ?_⟩
  rw [plainOp_sem hg, hr, Oper.uponIn_enter]
  refine ⟨(by intro h; cases h), ?_⟩
  obtain ⟨hcs, hX⟩ := frame_in hs
  refine CallsIn.mono (calls_round (hF (owns A ++ owns B ++ C.X) w args hcs (hargs.mono fun _ _ => Rsv.step hX))) ?_
  rintro e w' (⟨v, x, Ω', rfl, hR, hs', hv⟩ | ⟨u, rfl, hE, hs'⟩)
  · obtain ⟨hgo, hback⟩ := frame_out hs hs'
    have hv' : Rav (owns (A ++ Ω' ++ B) ++ C.X) w' v x := hv.step hback
    obtain ⟨d, hd, hdn, hk⟩ := hd
    rw [hd]
    exact hK _ _ (hk x Ω' hR _ _ hgo.1 ((ha.step hgo.2).put hdn hv'))
  · obtain ⟨hgo, hback⟩ := frame_out hs hs'
    have h1 := hgo.1
    have h2 := hgo.2
    rw [List.append_nil] at h1 h2
    exact hP u hE a w' h1 (ha.step h2)

/-- A call that may panic. -/
theorem L.callP {f : FuncId} {xs : List Operand} {ts : Array TypeId} {as : List SV} {R : AV → List Ob → Prop} {E : Value → Prop} (A Ω1 B : List Ob) (hΩ : Ω = A ++ Ω1 ++ B) (hf : enters P f = true) (hx : evs σ xs = some as) (hdn : Nat.blt d n = true) (hF : FcP P f as Ω1 R E)
    (hP : ∀ u, E u → G C n (Q (.panic (pan u))) σ (A ++ B))
    (h : ∀ x Ω', R x Ω' → L P C n ops Q rest ((d, x) :: σ) (A ++ Ω' ++ B)) : L P C n ops Q ({ dst := some d, op := .call { callee := .value (.func f), args := xs.toArray, argTypes := ts }, type := ty, pos, after, guard := none } :: rest) σ Ω := by
  subst hΩ
  exact L.enterP rfl ⟨d, rfl, bltLt hdn, h⟩ (fun a w _ ha => ⟨xs.map a.eval, run_call_exec rfl hf a w, ha.vals hx⟩) hF hP

/-- An interface made of a struct of numbers. -/
theorem L.mkI2 {t : TypeId} {x : Operand} {k k' : IntKind} {a b : Int} (hu : ∃ u, P.underlying t = some (.struct u)) (hx : ev σ x = some (.v (.g [.d (.i k a), .d (.i k' b)]))) (hdn : Nat.blt d n = true)
    (h : L P C n ops Q rest ((d, aR (.iface t (.agg #[.int k a, .int k' b]))) :: σ) Ω) : L P C n ops Q ({ dst := some d, op := .makeInterface t x, type := ty, pos, after, guard := none } :: rest) σ Ω := by
  refine L.pure (x := aR (.iface t (.agg #[.int k a, .int k' b]))) rfl rfl hdn (fun a' w hs ha => ⟨.iface t (.agg #[.int k a, .int k' b]), ?_, rfl, rfl⟩) h
  obtain ⟨v, h1, us, rfl, h2⟩ := ha.val hx
  obtain ⟨u, hu⟩ := hu
  match us, h2 with
  | [p, q], ⟨h3, h4, _⟩ =>
    have e1 := Rc.int_inv h3
    have e2 := Rc.int_inv h4
    subst e1 e2
    simp [execOp, Instr.makeInterface, run_underlying hu, h1]

theorem L.panic {x : Operand} {t : TypeId} {v : Value} (hx : ev σ x = some (aR (.iface t v))) (h : G C n (Q (.panic (pan (.iface t v)))) σ Ω) : L P C n ops Q ({ dst := none, op := .panic x, type := ty, pos, after, guard := none } :: rest) σ Ω := by
  intro a w hs ha
  refine wpListIn_plain rfl fun K hK => ⟨Ctx.about, ?_⟩
  have hr : (execOp a.eval { dst := none, op := .panic x, type := ty, pos, after, guard := none }).run P w = .halt (.panic (.iface t v)) w := by
    simp [execOp, ha.raw hx, Instr.panic, goPanic]
  rw [plainOp_sem rfl, hr, Oper.uponIn_panic]
  exact h a w hs ha
end
end Go.Q
