/- Views, flat and as trees. No program in sight. -/
import Derived.Test.YtimimkdgofiloaaGreatDg
namespace Go.Proofs.YtimimkdgofiloaaGreat
open Go Go.Q

structure Op6 where
  a : Int
  b : Int
  c : Int
  d : Int
  e : Bool
  f : Bool
structure FlatV where
  deep : Int
  kind : Int
  tag : ByteArray
  key : ByteArray
  text : ByteArray
  cl : List ByteArray
  at' : List (ByteArray × ByteArray)
  st : List (ByteArray × Int)
  op : Op6
def FlatV.d (f : FlatV) : List D := [.i .i64 f.deep, .i .i64 f.kind, .s f.tag, .s f.key, .s f.text, .l 1 (strs f.cl), .l 2 (ats f.at'), .l 2 (prs f.st), .i .i64 f.op.a, .i .i64 f.op.b, .i .i64 f.op.c, .i .i64 f.op.d, .b f.op.e, .b f.op.f]
def FlatV.cs (f : FlatV) : List CV := [.d (.i .i64 f.deep), .d (.i .i64 f.kind), .d (.s f.tag), .d (.s f.key), .d (.s f.text), .d (.l 1 (strs f.cl)), .d (.l 2 (ats f.at')), .d (.l 2 (prs f.st)), .d (.i .i64 f.op.a), .d (.i .i64 f.op.b), .d (.i .i64 f.op.c), .d (.i .i64 f.op.d), .d (.b f.op.e), .d (.b f.op.f)]
theorem FlatV.cs_d (f : FlatV) : f.cs = f.d.map .d := rfl
theorem FlatV.d_len (f : FlatV) : f.d.length = 14 := rfl
def flats (l : List FlatV) : List (List D) := l.map FlatV.d
@[simp] theorem flats_len (l : List FlatV) : (flats l).length = l.length := by simp [flats]
theorem flats_get {l : List FlatV} {k : Nat} (h : k < l.length) : (flats l)[k]? = some l[k].d := by simp [flats, h]

inductive Nd where
  | mk (kind : Int) (tag key text : ByteArray) (cl : List ByteArray) (at' : List (ByteArray × ByteArray)) (st : List (ByteArray × Int)) (op : Op6) (kids : List Nd)
def ndD (kind : Int) (tag key text : ByteArray) (cl : List ByteArray) (at' : List (ByteArray × ByteArray)) (st : List (ByteArray × Int)) (op : Op6) (ks : List (List D)) : List D :=
  [.i .i64 kind, .s tag, .s key, .s text, .l 1 (strs cl), .l 2 (ats at'), .l 2 (prs st), .i .i64 op.a, .i .i64 op.b, .i .i64 op.c, .i .i64 op.d, .b op.e, .b op.f, .l 14 ks]
def ndC (kind : Int) (tag key text : ByteArray) (cl : List ByteArray) (at' : List (ByteArray × ByteArray)) (st : List (ByteArray × Int)) (op : Op6) (ks : List (List D)) : List CV :=
  [.d (.i .i64 kind), .d (.s tag), .d (.s key), .d (.s text), .d (.l 1 (strs cl)), .d (.l 2 (ats at')), .d (.l 2 (prs st)), .d (.i .i64 op.a), .d (.i .i64 op.b), .d (.i .i64 op.c), .d (.i .i64 op.d), .d (.b op.e), .d (.b op.f), .d (.l 14 ks)]
mutual
def Nd.d : Nd → List D
  | .mk kind tag key text cl at' st op kids => ndD kind tag key text cl at' st op (ndsD kids)
def ndsD : List Nd → List (List D)
  | [] => []
  | t :: l => t.d :: ndsD l
end
def Nd.cs : Nd → List CV
  | .mk kind tag key text cl at' st op kids => ndC kind tag key text cl at' st op (ndsD kids)
mutual
def Nd.size : Nd → Nat
  | .mk _ _ _ _ _ _ _ _ kids => ndsSize kids + 1
def ndsSize : List Nd → Nat
  | [] => 0
  | t :: l => t.size + ndsSize l
end
mutual
/-- Few of all. -/
def Nd.few : Nd → Prop
  | .mk _ _ _ _ cl at' st _ kids => cl.length ≤ 4 ∧ at'.length ≤ 4 ∧ st.length ≤ 4 ∧ ndsFew kids
def ndsFew : List Nd → Prop
  | [] => True
  | t :: l => t.few ∧ ndsFew l
end
theorem Nd.cs_d (t : Nd) : t.cs = t.d.map .d := by cases t; rfl
theorem Nd.d_len (t : Nd) : t.d.length = 14 := by cases t; rfl
theorem Nd.cs_len (t : Nd) : t.cs.length = 14 := by cases t; rfl
theorem ndsD_map : ∀ l : List Nd, ndsD l = l.map Nd.d
  | [] => rfl
  | t :: l => by simp [ndsD, ndsD_map l]
theorem ndsD_len (l : List Nd) : (ndsD l).length = l.length := by simp [ndsD_map]
theorem ndsD_get {l : List Nd} {k : Nat} (h : k < l.length) : (ndsD l)[k]? = some l[k].d := by simp [ndsD_map, h]
theorem ndsD_snoc (l : List Nd) (t : Nd) : ndsD (l ++ [t]) = ndsD l ++ [t.d] := by simp [ndsD_map]
theorem ndsSize_append : ∀ l m : List Nd, ndsSize (l ++ m) = ndsSize l + ndsSize m
  | [], m => by simp [ndsSize]
  | t :: l, m => by simp [ndsSize, ndsSize_append l m]; omega
theorem Nd.size_pos (t : Nd) : 0 < t.size := by cases t; simp [Nd.size]
theorem ndsSize_len : ∀ l : List Nd, l.length ≤ ndsSize l
  | [] => Nat.le_refl _
  | t :: l => by have := ndsSize_len l; have := t.size_pos; simp only [List.length_cons, ndsSize]; omega
theorem ndsFew_all : ∀ {l : List Nd}, ndsFew l ↔ ∀ t ∈ l, t.few
  | [] => by simp [ndsFew]
  | t :: l => by simp [ndsFew, ndsFew_all (l := l)]
theorem ndsSize_get : ∀ {l : List Nd} {k : Nat} (h : k < l.length), l[k].size + ndsSize (l.take k) ≤ ndsSize l
  | t :: l, 0, _ => by simp [ndsSize]
  | t :: l, k + 1, h => by
    have := ndsSize_get (l := l) (k := k) (by simpa using h)
    simp only [List.take_succ_cons, ndsSize, List.getElem_cons_succ]
    omega
theorem elsC_nd (t : Nd) : elsC 14 0 [(0, .g t.cs)] = some [t.d] := by cases t; rfl

def few2 (l : List (ByteArray × ByteArray)) (n : Nat) : List (ByteArray × ByteArray) := (l.take n).map fun p => (cutS 20 p.1, cutS 40 p.2)
/-- A flat node by itself. -/
def FlatV.node (f : FlatV) : Nd := .mk f.kind (f.tag.extract 0 20) (f.key.extract 0 20) (f.text.extract 0 70) (few f.cl 4) (few2 f.at' 4) (fewP f.st 4) f.op []
theorem FlatV.node_few (f : FlatV) : f.node.few := by
  refine ⟨?_, ?_, ?_, trivial⟩
  · simp [Go.Proofs.YtimimkdgofiloaaGreat.few]; omega
  · simp [few2]; omega
  · simp [fewP]; omega
theorem FlatV.node_size (f : FlatV) : f.node.size = 1 := rfl
/-- With kids. -/
def Nd.withKids (ks : List Nd) : Nd → Nd
  | .mk kind tag key text cl at' st op _ => .mk kind tag key text cl at' st op ks
mutual
/-- A tree whose lists are short. -/
def Tr.small : Tr → Prop
  | .mk _ _ _ _ cl at' st kids => cl.length ≤ 1000 ∧ at'.length ≤ 1000 ∧ st.length ≤ 1000 ∧ kidsSmall kids
def kidsSmall : List Tr → Prop
  | [] => True
  | t :: l => t.small ∧ kidsSmall l
end
theorem kidsSmall_all : ∀ {l : List Tr}, kidsSmall l ↔ ∀ t ∈ l, t.small
  | [] => by simp [kidsSmall]
  | t :: l => by simp [kidsSmall, kidsSmall_all (l := l)]
theorem kidsSmall_get {l : List Tr} (h : kidsSmall l) {k : Nat} (hk : k < l.length) : l[k].small := kidsSmall_all.1 h _ (List.getElem_mem hk)

end Go.Proofs.YtimimkdgofiloaaGreat
