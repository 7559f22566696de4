/- Structs and slices written out; append; make; rows. -/
import Derived.Test.YtimimkdgofiloaaGreatDoorQd
namespace Go.Q
open Go

/-- The places and sizes of a struct's fields. -/
def placesOf (P : Program) (t : TypeId) : Option (List (Nat × Nat)) :=
  match P.underlying t with
  | some (.struct fs) => fs.toList.mapM fun f => (P.info? f.type).map fun i => (f.offset, i.size)
  | _ => none

def setL {α : Type} : List α → Nat → α → Option (List α)
  | _ :: l, 0, x => some (x :: l)
  | a :: l, i + 1, x => match setL l i x with
    | some l' => some (a :: l')
    | none => none
  | [], _, _ => none

theorem setL_eq {α : Type} : ∀ {l : List α} {i : Nat} {x : α} {l' : List α}, setL l i x = some l' → l' = l.set i x ∧ i < l.length
  | _ :: l, 0, x, l', h => by simp [setL] at h; subst h; simp
  | a :: l, i + 1, x, l', h => by
    simp only [setL] at h
    cases hh : setL l i x with
    | none => simp [hh] at h
    | some m =>
      simp [hh] at h
      subst h
      obtain ⟨h1, h2⟩ := setL_eq hh
      exact ⟨by simp [h1], by simp [h2]⟩
  | [], _, _, _, h => by simp [setL] at h

def setsL {α : Type} : List α → Nat → List α → Option (List α)
  | l, _, [] => some l
  | l, o, x :: xs => match setL l o x with
    | some l' => setsL l' (o + 1) xs
    | none => none

def buildC (pl : List (Nat × Nat)) : List CV → List (Nat × SV) → Option (List CV)
  | cs, [] => some cs
  | cs, (i, s) :: r => match pl[i]? with
    | some (o, sz + 1) => if Nat.beq s.cells.length (sz + 1) then (match setsL cs o s.cells with
      | some cs' => buildC pl cs' r
      | none => none) else none
    | _ => none

def evP (σ : Env) : List (Nat × Operand) → Option (List (Nat × SV))
  | [] => some []
  | (i, x) :: xs => match evS σ x, evP σ xs with
    | some s, some r => some ((i, s) :: r)
    | _, _ => none

theorem evS_ev {σ : Env} {x : Operand} {s : SV} (h : evS σ x = some s) : ev σ x = some (.v s) := by
  unfold evS at h
  cases h3 : ev σ x with
  | none => simp [h3] at h
  | some y => cases y <;> simp [h3] at h; subst h; rfl

theorem Has.parts {n : Nat} {ds : List Deferred} {Y : List Nat} {w : World} {a : Act} {σ : Env} (ha : Has n ds Y w a σ) : ∀ {ps : List (Nat × Operand)} {xs : List (Nat × SV)}, evP σ ps = some xs →
    All2 (fun (p : Nat × Value) (q : Nat × SV) => p.1 = q.1 ∧ Rsv Y w p.2 q.2) (ps.map fun p => (p.1, a.eval p.2)) xs
  | [], xs, h => by simp [evP] at h; subst h; trivial
  | (i, x) :: ps, xs, h => by
    simp only [evP] at h
    cases h1 : evS σ x with
    | none => simp [h1] at h
    | some s =>
      cases h2 : evP σ ps with
      | none => simp [h1, h2] at h
      | some r =>
        simp [h1, h2] at h
        subst h
        obtain ⟨v, hv, hr⟩ := ha.val (evS_ev h1)
        exact ⟨⟨rfl, by show Rsv Y w (a.eval x) s; rw [hv]; exact hr⟩, ha.parts h2⟩

/-- Cells replaced one by one, as the model does it. -/
def setsA (cs : Array Value) (o : Nat) (vs : List Value) : Array Value := (vs.toArray.zipIdx).foldl (fun cs (p : Value × Nat) => cs.setIfInBounds (o + p.2) p.1) cs

theorem setsA_list (vs : List Value) (o : Nat) : ∀ (k : Nat) (cs : Array Value), ((vs.toArray.zipIdx k).foldl (fun cs (p : Value × Nat) => cs.setIfInBounds (o + p.2) p.1) cs) = (vs.zipIdx k).foldl (fun cs (p : Value × Nat) => cs.setIfInBounds (o + p.2) p.1) cs := by
  intro k cs
  rw [← Array.foldl_toList]
  congr 1
  simp

theorem setsL_rel {Y : List Nat} {w : World} : ∀ {vs : List Value} {xs : List CV}, All2 (Rcv Y w) vs xs → ∀ {o k : Nat} {cs : Array Value} {ms ms' : List CV}, All2 (Rcv Y w) cs.toList ms → setsL ms (o + k) xs = some ms' →
    All2 (Rcv Y w) ((vs.zipIdx k).foldl (fun cs (p : Value × Nat) => cs.setIfInBounds (o + p.2) p.1) cs).toList ms' ∧ (o + k + xs.length ≤ ms.length ∨ xs = [])
  | [], [], _, o, k, cs, ms, ms', hc, h => by simp [setsL] at h; subst h; exact ⟨by simpa using hc, .inr rfl⟩
  | v :: vs, x :: xs, ⟨h1, h2⟩, o, k, cs, ms, ms', hc, h => by
    simp only [setsL] at h
    cases hs : setL ms (o + k) x with
    | none => simp [hs] at h
    | some m =>
      simp only [hs] at h
      obtain ⟨hm, hlt⟩ := setL_eq hs
      have hc' : All2 (Rcv Y w) (cs.setIfInBounds (o + k) v).toList m := by
        rw [hm, Array.toList_setIfInBounds]; exact hc.set h1 _
      have := setsL_rel h2 (o := o) (k := k + 1) (cs := cs.setIfInBounds (o + k) v) hc' (by rw [← Nat.add_assoc]; exact h)
      refine ⟨by simpa using this.1, .inl ?_⟩
      rcases this.2 with h3 | h3
      · rw [hm] at h3; simp at h3 ⊢; omega
      · subst h3; simp; omega
  | [], _ :: _, h2, _, _, _, _, _, _, _ => h2.elim
  | _ :: _, [], h2, _, _, _, _, _, _, _ => h2.elim

theorem fill_rel {Y : List Nat} {w : World} {pl : List (Nat × Nat)} {place : Nat → Option (Nat × Nat)} (hp : ∀ i, place i = pl[i]?) : ∀ {ps : List (Nat × Value)} {xs : List (Nat × SV)}, All2 (fun (p : Nat × Value) (q : Nat × SV) => p.1 = q.1 ∧ Rsv Y w p.2 q.2) ps xs →
    ∀ {cs : Array Value} {ms ys : List CV}, All2 (Rcv Y w) cs.toList ms → buildC pl ms xs = some ys → ∃ us, Instr.fill place cs ps = some us ∧ All2 (Rcv Y w) us.toList ys
  | [], [], _, cs, ms, ys, hc, h => by simp [buildC] at h; subst h; exact ⟨cs, rfl, hc⟩
  | (i, v) :: ps, (j, s) :: xs, ⟨⟨hij, hr⟩, h2⟩, cs, ms, ys, hc, h => by
    have hij' : i = j := hij
    subst hij'
    have hr' : Rsv Y w v s := hr
    have hcells := hr'.cells
    have hlen := hcells.length
    simp only [buildC] at h
    cases hpi : pl[i]? with
    | none => simp [hpi] at h
    | some q =>
      obtain ⟨o, sz0⟩ := q
      cases sz0 with
      | zero => simp [hpi] at h
      | succ sz =>
        simp only [hpi] at h
        split at h
        · rename_i hb
          have hb' : s.cells.length = sz + 1 := by simpa using hb
          cases hs : setsL ms o s.cells with
          | none => simp [hs] at h
          | some m =>
            simp only [hs] at h
            obtain ⟨h3, h4⟩ := setsL_rel hcells (o := o) (k := 0) (cs := cs) hc (by simpa using hs)
            have h5 : v.cells.zipIdx.foldl (fun cs (c, j) => cs.setIfInBounds (o + j) c) cs = (v.cells.toList.zipIdx 0).foldl (fun cs (p : Value × Nat) => cs.setIfInBounds (o + p.2) p.1) cs := by
              have := setsA_list v.cells.toList o 0 cs
              simpa using this
            obtain ⟨us, h6, h7⟩ := fill_rel hp h2 h3 h
            refine ⟨us, ?_, h7⟩
            have hcl := hc.length
            have hsz : v.cells.size = s.cells.length := by simpa using hlen
            have h8 : o + 0 + s.cells.length ≤ ms.length := h4.resolve_right (fun e => by rw [e] at hb'; simp at hb')
            simp only [Instr.fill, hp, hpi]
            rw [if_neg, h5]
            · exact h6
            · simp at hcl ⊢; omega
        · simp at h
  | [], _ :: _, h2, _, _, _, _, _ => h2.elim
  | _ :: _, [], h2, _, _, _, _, _ => h2.elim


theorem mapM_some {α β : Type} {f : α → Option β} : ∀ {l : List α} {r : List β}, l.mapM f = some r → ∀ (i : Nat) (a : α), l[i]? = some a → ∃ b, f a = some b ∧ r[i]? = some b
  | [], r, h, i, a, ha => by simp at ha
  | x :: l, r, h, i, a, ha => by
    simp only [List.mapM_cons, Option.bind_eq_bind, Option.bind_eq_some_iff, Option.pure_def, Option.some.injEq] at h
    obtain ⟨b, hb, r', hr', rfl⟩ := h
    cases i with
    | zero => simp at ha; subst ha; exact ⟨b, hb, rfl⟩
    | succ i => obtain ⟨c, hc, hr⟩ := mapM_some hr' i a (by simpa using ha); exact ⟨c, hc, by simpa using hr⟩

theorem mapM_none {α β : Type} {f : α → Option β} : ∀ {l : List α} {r : List β}, l.mapM f = some r → r.length = l.length
  | [], r, h => by simp at h; subst h; rfl
  | x :: l, r, h => by
    simp only [List.mapM_cons, Option.bind_eq_bind, Option.bind_eq_some_iff, Option.pure_def, Option.some.injEq] at h
    obtain ⟨b, _, r', hr', rfl⟩ := h
    simp [mapM_none hr']

theorem run_places {P : Program} {w : World} : ∀ {l : List Field} {r : List (Nat × Nat)}, l.mapM (fun f => (P.info? f.type).map fun i => (f.offset, i.size)) = some r →
    (l.mapM fun f => (do pure (f.offset, ← sizeOf f.type) : Sem (Nat × Nat))).run P w = .ok r w
  | [], r, h => by simp at h; subst h; simp
  | x :: l, r, h => by
    simp only [List.mapM_cons, Option.bind_eq_bind, Option.bind_eq_some_iff, Option.pure_def, Option.some.injEq] at h
    obtain ⟨b, hb, r', hr', rfl⟩ := h
    obtain ⟨i, hi, rfl⟩ := Option.map_eq_some_iff.1 hb
    have ih := run_places (P := P) (w := w) hr'
    simp [List.mapM_cons, sizeOf, typeInfo, hi] at ih ⊢
    simp [ih]

section
variable {P : Program} {C : Ctx} {n : Nat} {ops : Array Oper} {Q : Pst} {rest : List Oper} {σ σ' : Env} {Ω Ω' A B : List Ob} {d : Nat} {ty : TypeId} {pos : String} {after : Array Edge}

/-- A struct written out. -/
theorem L.bld {t : TypeId} {ps : List (Nat × Operand)} {pl : List (Nat × Nat)} {zc ys : List CV} {zs : Array Value} {xs : List (Nat × SV)} (hpl : placesOf P t = some pl) (hz : (P.info? t).bind (·.zero) = some (.agg zs)) (hk : zs.toList.all Value.oneCell' = true) (hzc : zs.toList.map kCV = zc) (hx : evP σ ps = some xs) (hb : buildC pl zc xs = some ys) (hdn : Nat.blt d n = true)
    (h : L P C n ops Q rest ((d, .v (.g ys)) :: σ) Ω) : L P C n ops Q ({ dst := some d, op := .build t ps.toArray, type := ty, pos, after, guard := none } :: rest) σ Ω := by
  subst hzc
  obtain ⟨ti, hti, hzv⟩ := Option.bind_eq_some_iff.1 hz
  refine L.pure rfl rfl hdn (fun a w hs ha => ?_) h
  unfold placesOf at hpl
  split at hpl
  · rename_i fs hu
    obtain ⟨us, h1, h2⟩ := fill_rel (pl := pl) (place := fun i => pl[i]?) (fun _ => rfl) (ha.parts hx) (cs := zs) (all2_k hk) hb
    refine ⟨.agg us, ?_, us.toList, rfl, h2⟩
    have h3 := run_places (P := P) (w := w) hpl
    have h4 : (fs.mapM fun f => (do Pure.pure (f.offset, ← sizeOf f.type) : Sem (Nat × Nat))).run P w = .ok pl.toArray w := by
      rw [Array.mapM_eq_mapM_toList, Sem.run_map, h3]
      rfl
    have h5 : (zeroValue t).run P w = .ok (.agg zs) w := by simp [zeroValue, typeInfo, hti, hzv]
    have h6 : (Instr.build t (ps.map fun p => (p.1, a.eval p.2)).toArray).run P w = .ok (.agg us) w := by
      unfold Instr.build
      simp only [Sem.run_bind, h5, Result.andThen_ok, run_underlying hu, h4, Value.cells, List.getElem?_toArray, h1, Sem.run_pure]
    simp only [execOp, Sem.run_bind]
    have h7 : (ps.toArray.map fun (p : Nat × Operand) => (p.1, a.eval p.2)) = (ps.map fun p => (p.1, a.eval p.2)).toArray := by simp
    rw [h7, h6]
    rfl
  · simp at hpl

end
end Go.Q
