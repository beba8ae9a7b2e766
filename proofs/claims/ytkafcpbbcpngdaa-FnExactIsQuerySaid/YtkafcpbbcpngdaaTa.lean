/- Typed values: what a cell, a struct, a slice holds, as plain Lean data; the trees that stand for them. -/
import Derived.Test.YtkafcpbbcpngdaaTw
namespace Go.Ve

inductive Ty where
  | int (k : IntKind) | bool | str | sl (t : Ty) | ptr (t : Ty) | unit | pair (a b : Ty)
deriving DecidableEq

/-- the data of a type -/
@[reducible] def Ty.T : Ty → Type
  | .int _ => Int
  | .bool => Bool
  | .str => ByteArray
  | .sl t => List t.T
  | .ptr t => t.T
  | .unit => Unit
  | .pair a b => a.T × b.T

def Ty.dflt : (t : Ty) → t.T
  | .int _ => (0 : Int)
  | .bool => false
  | .str => ByteArray.mk #[]
  | .sl _ => []
  | .ptr t => t.dflt
  | .unit => ()
  | .pair a b => (a.dflt, b.dflt)

/-- how many cells -/
def Ty.w : Ty → Nat
  | .unit => 0
  | .pair a b => a.w + b.w
  | _ => 1

/-- how deep owned memory may lie -/
def Ty.dep : Ty → Nat
  | .sl t => t.dep + 1
  | .ptr t => t.dep + 1
  | .pair a b => max a.dep b.dep
  | _ => 0

/-- The trees of the cells; 'd': so many levels are owned, what lies deeper is only read. -/
def tyV : (t : Ty) → Nat → t.T → List V
  | .int k, _, n => [.c (.int k n)]
  | .bool, _, b => [.c (.bool b)]
  | .str, _, s => [.c (.string s)]
  | .sl t, d, xs => [arr (decide (0 < d)) t.w (tyV t (d - 1)) t.dflt xs]
  | .ptr t, d, x => [objL (decide (0 < d)) (tyV t (d - 1) x)]
  | .unit, _, _ => []
  | .pair a b, d, x => tyV a d x.1 ++ tyV b d x.2

theorem tyV_len : ∀ (t : Ty) (d : Nat) (x : t.T), (tyV t d x).length = t.w
  | .int _, _, _ => rfl
  | .bool, _, _ => rfl
  | .str, _, _ => rfl
  | .sl _, _, _ => rfl
  | .ptr _, _, _ => rfl
  | .unit, _, _ => rfl
  | .pair a b, d, x => by simp [tyV, Ty.w, tyV_len a, tyV_len b]

/-- Deeper than a type goes nothing is owned. -/
theorem tyV_dep : ∀ (t : Ty) (d d' : Nat) (x : t.T), min d t.dep = min d' t.dep → tyV t d x = tyV t d' x
  | .int _, _, _, _, _ => rfl
  | .bool, _, _, _, _ => rfl
  | .str, _, _, _, _ => rfl
  | .sl t, d, d', xs, h => by
    simp only [Ty.dep] at h
    have e1 : decide (0 < d) = decide (0 < d') := by
      rw [Bool.eq_iff_iff]; simp; omega
    have e2 : tyV t (d - 1) = tyV t (d' - 1) := funext fun x => tyV_dep t _ _ x (by omega)
    simp only [tyV, e1, e2]
  | .ptr t, d, d', x, h => by
    simp only [Ty.dep] at h
    have e1 : decide (0 < d) = decide (0 < d') := by
      rw [Bool.eq_iff_iff]; simp; omega
    simp only [tyV, e1, tyV_dep t (d - 1) (d' - 1) x (by omega)]
  | .unit, _, _, _, _ => rfl
  | .pair a b, d, d', x, h => by
    simp only [Ty.dep] at h
    simp only [tyV, tyV_dep a d d' x.1 (by omega), tyV_dep b d d' x.2 (by omega)]

theorem tyV_frz : ∀ (t : Ty) (d : Nat) (x : t.T), (tyV t d x).map frz = tyV t 0 x
  | .int _, _, _ => rfl
  | .bool, _, _ => rfl
  | .str, _, _ => rfl
  | .sl t, d, xs => by
    have e : (fun a => (tyV t (d - 1) a).map frz) = tyV t 0 := funext fun x => tyV_frz t _ x
    simp [tyV, frz_arr, e]
  | .ptr t, d, x => by simp [tyV, frz_objL, tyV_frz t]
  | .unit, _, _ => rfl
  | .pair a b, d, x => by simp [tyV, tyV_frz a, tyV_frz b]

abbrev Path := List (Nat × Nat)

/-- What lies in one cell. 'rf': the whole slice that lies there; 'rs': a part of it. -/
inductive Cl where
  | dead
  | nil
  | nilp
  | c (t : Ty) (d : Nat) (x : t.T)
  | rf (id : Nat) (p : Path)
  | rs (id : Nat) (p : Path) (off len : Nat)
  | rp (id : Nat) (p : Path) (i k : Nat)

/-- An owned tree. 'ro': it is only read at present. -/
inductive Root where
  | dead
  | obj (ro : Bool) (l : List Cl)
  | arr (ro : Bool) (t : Ty) (d : Nat) (xs : List t.T)

/-- The cells, each by itself. -/
def cellsC : (t : Ty) → Nat → t.T → List Cl
  | .unit, _, _ => []
  | .pair a b, d, x => cellsC a d x.1 ++ cellsC b d x.2
  | .int k, d, x => [.c (.int k) d x]
  | .bool, d, x => [.c .bool d x]
  | .str, d, x => [.c .str d x]
  | .sl t, d, x => [.c (.sl t) d x]
  | .ptr t, d, x => [.c (.ptr t) d x]

/-- A value's one cell. -/
def cV : (t : Ty) → Nat → t.T → V
  | .int k, _, n => .c (.int k n)
  | .bool, _, b => .c (.bool b)
  | .str, _, s => .c (.string s)
  | .sl t, d, xs => arr (decide (0 < d)) t.w (tyV t (d - 1)) t.dflt xs
  | .ptr t, d, x => objL (decide (0 < d)) (tyV t (d - 1) x)
  | .unit, _, _ => .dead
  | .pair _ _, _, _ => .dead

/-- A cell of a tree (no references). -/
def Cl.v0 : Cl → V
  | .dead => .dead
  | .nil => .c (.slice none 0 0)
  | .nilp => .c (.pointer none)
  | .c t d x => cV t d x
  | _ => .dead

def Root.v : Root → V
  | .dead => .dead
  | .obj _ l => objL true (l.map Cl.v0)
  | .arr _ t d xs => Go.Ve.arr true t.w (tyV t d) t.dflt xs

theorem cellsC_v : ∀ (t : Ty) (d : Nat) (x : t.T), (cellsC t d x).map Cl.v0 = tyV t d x
  | .int _, _, _ => rfl
  | .bool, _, _ => rfl
  | .str, _, _ => rfl
  | .sl _, _, _ => rfl
  | .ptr _, _, _ => rfl
  | .unit, _, _ => rfl
  | .pair a b, d, x => by simp [cellsC, tyV, cellsC_v a, cellsC_v b]

/-- The node in a cell. -/
def Cl.node (ro : Bool) : Cl → Root
  | .c (.sl t) (d + 1) xs => .arr ro t d xs
  | .c (.ptr t) (d + 1) x => .obj ro (cellsC t d x)
  | _ => .dead

/-- The cells of element i. -/
def Root.cells : Root → Nat → List Cl
  | .obj _ l, 0 => l
  | .obj _ _, _ + 1 => []
  | .arr _ t d xs, i => cellsC t d (getX xs i t.dflt)
  | .dead, _ => []
def Root.ro : Root → Bool
  | .obj ro _ => ro
  | .arr ro _ _ _ => ro
  | .dead => true

def Root.at' : Root → Path → Root
  | r, [] => r
  | r, (i, k) :: p => (((r.cells i).getD k .dead).node r.ro).at' p

/-- what is seen of the trees -/
def Root.len : Root → Nat
  | .arr _ _ _ xs => lenX xs
  | .obj _ _ => 1
  | .dead => 0

def nodeR (r : List Root) (id : Nat) (p : Path) : Root := (r.getD id .dead).at' p

def Cl.v (r : List Root) : Cl → V
  | .dead => .dead
  | .nil => .c (.slice none 0 0)
  | .nilp => .c (.pointer none)
  | .c t d x => cV t d x
  | .rf id p => .rs id p 0 (nodeR r id p).len
  | .rs id p off len => .rs id p off len
  | .rp id p i k => .rp id p i k

/-- What a temporary holds. -/
inductive Sl where
  | one (c : Cl)
  | new (l : List Cl)
  | agg (l : List Cl)
  | tup (l : List (Bool × List Cl))

def Sl.v (r : List Root) : Sl → V
  | .one c => c.v r
  | .new l => objL true (l.map Cl.v0)
  | .agg l => mkMany (l.map (Cl.v r))
  | .tup l => tupV (l.map fun p => if p.1 then mkMany (p.2.map (Cl.v r)) else (p.2.map (Cl.v r)).getD 0 .dead)

structure St where
  t : Nat → Sl
  r : List Root

def St.den (s : St) : Ms := ⟨fun i => (s.t i).v s.r, s.r.map Root.v⟩

theorem sub_node (ro : Bool) (c : Cl) : sub [] c.v0 = c.v0 := rfl

theorem node_v {ro : Bool} {c : Cl} (h : (c.node ro) ≠ .dead) : c.v0 = (c.node ro).v := by
  unfold Cl.node at h ⊢
  split at h <;> try (exact absurd rfl h)
  · simp [Cl.v0, cV, tyV, Root.v]
  · simp [Cl.v0, cV, tyV, Root.v, cellsC_v]

theorem getD_mapV {α : Type} {f : α → V} {a : α} (hf : f a = .dead) (l : List α) (k : Nat) : (l.map f).getD k .dead = f (l.getD k a) := by
  simp only [List.getD_eq_getElem?_getD, List.getElem?_map]
  cases l[k]? <;> simp [hf]


/-- A node's tree, cell by cell. -/
theorem cells_v (r : Root) (hd : r ≠ .dead) : ∃ s sz n f, r.v = .nd s true sz n f ∧ (∀ i k, f i k = ((r.cells i).getD k .dead).v0) ∧ n = r.len ∧ (s = false → n = 1) ∧
    (∀ ro t d xs, r = .arr ro t d xs → s = true ∧ sz = t.w) ∧ (∀ ro l, r = .obj ro l → s = false ∧ sz = l.length) := by
  cases r with
  | dead => exact absurd rfl hd
  | obj ro l =>
    refine ⟨false, _, _, _, rfl, ?_, rfl, fun _ => rfl, fun ro t d xs h => by (cases h), fun ro l h => by cases h; exact ⟨rfl, by simp⟩⟩
    intro i k
    cases i with
    | zero =>
      show (l.map Cl.v0).getD k .dead = _
      exact getD_mapV (f := Cl.v0) rfl l k
    | succ i => rfl
  | arr ro t d xs =>
    refine ⟨true, _, _, _, rfl, ?_, rfl, (fun h => by cases h), fun ro t d xs h => by (cases h; exact ⟨rfl, rfl⟩), fun ro l h => by cases h⟩
    intro i k
    show (tyV t d (xs.getD i t.dflt)).getD k .dead = _
    rw [← cellsC_v]
    exact getD_mapV (f := Cl.v0) rfl _ k

theorem dead_at : ∀ p, Root.at' .dead p = .dead
  | [] => rfl
  | (i, k) :: p => by
    show ((([] : List Cl).getD k .dead).node true).at' p = .dead
    exact dead_at p

theorem sub_at : ∀ (p : Path) (r : Root), r.at' p ≠ .dead → sub p r.v = (r.at' p).v
  | [], r, _ => rfl
  | (i, k) :: p, r, h => by
    have hr : r ≠ .dead := by rintro rfl; exact h (dead_at _)
    obtain ⟨s, sz, n, f, hv, hf, _⟩ := cells_v r hr
    rw [hv]
    show sub p (f i k) = _
    have h' : (((r.cells i).getD k .dead).node r.ro).at' p ≠ .dead := h
    have hn : ((r.cells i).getD k .dead).node r.ro ≠ .dead := by intro e; rw [e] at h'; exact h' (dead_at p)
    rw [hf, node_v hn, sub_at p _ h']
    rfl

theorem at_app : ∀ (p q : Path) (r : Root), r.at' (p ++ q) = (r.at' p).at' q
  | [], _, _ => rfl
  | (i, k) :: p, q, r => at_app p q _

theorem getD_roots (l : List Root) (id : Nat) : (l.map Root.v).getD id .dead = (l.getD id .dead).v := getD_mapV (f := Root.v) rfl l id

theorem sub_nodeR {r : List Root} {id : Nat} {p : Path} (h : nodeR r id p ≠ .dead) : sub p ((r.map Root.v).getD id .dead) = (nodeR r id p).v := by
  rw [getD_roots]; exact sub_at p _ h
end Go.Ve
