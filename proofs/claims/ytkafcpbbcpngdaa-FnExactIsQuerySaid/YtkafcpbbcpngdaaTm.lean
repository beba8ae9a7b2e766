/- The typed machine: trees get other numbers; the state at the head of a loop. -/
import Derived.Test.YtkafcpbbcpngdaaTl
namespace Go.Ve
open RowKit (Below)

/-- v, where tree number π i is called i (i < n). -/
def RenS (π : Nat → Nat) (n : Nat) : V → V → Prop
  | .many t m f, v' => v' = .dead ∨ ∃ g, v' = .many t m g ∧ ∀ k, k < m → RenS π n (f k) (g k)
  | .rs id p off len, v' => v' = .dead ∨ ∃ i, i < n ∧ π i = id ∧ v' = .rs i p off len
  | .rp id p i k, v' => v' = .dead ∨ ∃ j, j < n ∧ π j = id ∧ v' = .rp j p i k
  | v, v' => v' = .dead ∨ Sub v v'

theorem RenS.dead (π : Nat → Nat) (n : Nat) (v : V) : RenS π n v .dead := by cases v <;> exact .inl rfl

theorem Rel.ren {D : Nat → Prop} {w : World} {σ σ' : List V} {ρ : Nat → Value} {π : Nat → Nat} (hπ : ∀ i, i < σ'.length → π i < σ.length) (hs : ∀ i, i < σ'.length → Sub (σ.getD (π i) .dead) (σ'.getD i .dead)) :
    ∀ {v v' : V} {cv : Value}, RenS π σ'.length v v' → Rel D w (RefOK σ ρ w) v cv noF → Rel D w (RefOK σ' (fun i => ρ (π i)) w) v' cv noF := by
  intro v
  induction v with
  | many t n f ih =>
    intro v' cv h hr
    rcases h with rfl | ⟨g, rfl, h⟩
    · exact fun _ h => h
    obtain ⟨cs, F, hcv, hn, hr, hd, hf⟩ := hr
    have hF : ∀ k, k < n → F k = noF := fun k hk => noF_eq fun b hb => (hf b).2 ⟨k, hk, hb⟩
    exact ⟨cs, fun _ => noF, hcv, hn, fun k hk => ih k (h k hk) (by have := hr k hk; rw [hF k hk] at this; exact this), fun _ _ _ _ _ _ h => h.elim, fun b => ⟨fun h => h.elim, fun ⟨_, _, h⟩ => h⟩⟩
  | rs id p off len =>
    intro v' cv h hr
    rcases h with rfl | ⟨i, hi, rfl, rfl⟩
    · exact fun _ h => h
    obtain ⟨⟨hid, sz, n, f, cn, ha, r⟩, hf⟩ := hr
    obtain ⟨f', ha'⟩ := At.sub' (hs i hi) ha
    exact ⟨⟨hi, sz, n, f', cn, ha', r⟩, hf⟩
  | rp id p i k =>
    intro v' cv h hr
    rcases h with rfl | ⟨j, hj, rfl, rfl⟩
    · exact fun _ h => h
    obtain ⟨⟨hid, s, sz, n, f, b, o, cap, ha, r⟩, hf⟩ := hr
    obtain ⟨f', ha'⟩ := At.sub' (hs j hj) ha
    exact ⟨⟨hj, s, sz, n, f', b, o, cap, ha', r⟩, hf⟩
  | c v =>
    intro v' cv h hr
    rcases h with rfl | h
    · exact fun _ h => h
    · exact Rel.sub h hr
  | dead => intro v' cv h hr; rcases h with rfl | h; exact fun _ h => h; cases h; exact fun _ h => h
  | nd s own sz n f _ =>
    intro v' cv h hr
    rcases h with rfl | h
    · exact fun _ h => h
    · exact Rel.sub h (show Rel D w (RefOK σ' (fun i => ρ (π i)) w) (.nd s own sz n f) cv noF from Rel.nd_R hr)

theorem CR.perm {C : Ctx} {σ σ' ts ts' : List V} {cts : Array Value} {w : World} {D : Nat → Prop} {ρ : Nat → Value} {F : Nat → Nat → Prop} {π : Nat → Nat} (h : CR C σ ts cts w D ρ F) (hπ : ∀ i, i < σ'.length → π i < σ.length) (hinj : ∀ i j, i < σ'.length → j < σ'.length → π i = π j → i = j)
    (hs : ∀ i, i < σ'.length → Sub (σ.getD (π i) .dead) (σ'.getD i .dead)) (hfix : ∀ i, i < C.m → π i = i) (hml : C.m ≤ σ'.length) (htl : ts'.length = ts.length) (ht : ∀ i, i < ts.length → RenS π σ'.length (ts.getD i .dead) (ts'.getD i .dead)) : CRel C σ' ts' cts w := by
  refine ⟨D, fun i => ρ (π i), fun i => if i < σ'.length then F (π i) else noF, ⟨fun i hi => ?_, fun i j b hij h1 h2 => ?_, fun i b hb => ?_, h.wr.Dlt, fun i b hi hb => ?_⟩, by rw [h.sz, htl], fun t ht' => ?_, h.fr, fun i b hb => ?_, h.D1, h.D2, fun i hi => ?_, hml⟩
  · simp only [hi, if_true]
    exact Rel.sub (hs i hi) (h.wr.rel (π i) (hπ i hi))
  · split at h1
    · split at h2
      · rename_i hi hj
        exact h.wr.disj (π i) (π j) b (fun e => hij (hinj i j hi hj e)) h1 h2
      · exact h2
    · exact h1.elim
  · split at hb
    · exact h.wr.dD _ b hb
    · exact hb.elim
  · rw [if_neg (by omega)] at hb; exact hb.elim
  · exact Rel.ren hπ hs (ht t (by omega)) (h.tm t (by omega))
  · split at hb
    · exact h.Fn _ b hb
    · exact hb.elim
  · show ρ (π i) = _
    rw [hfix i hi]; exact h.rt i hi

theorem SRel.perm {C : Ctx} {N : Nat} {S S' : Ms} {a : Act} {w : World} {π : Nat → Nat} (h : SRel C N S a w) (hπ : ∀ i, i < S'.σ.length → π i < S.σ.length) (hinj : ∀ i j, i < S'.σ.length → j < S'.σ.length → π i = π j → i = j)
    (hs : ∀ i, i < S'.σ.length → Sub (S.σ.getD (π i) .dead) (S'.σ.getD i .dead)) (hfix : ∀ i, i < C.m → π i = i) (hml : C.m ≤ S'.σ.length) (ht : ∀ i, RenS π S'.σ.length (S.t i) (S'.t i)) : SRel C N S' a w := by
  obtain ⟨hd, hdd, D, ρ, F, hcr⟩ := h
  refine ⟨hd, fun x hx => ?_, hcr.perm hπ hinj hs hfix hml (by simp) fun i hi => ?_⟩
  · have := ht x
    rw [hdd x hx] at this
    rcases this with h | h
    · exact h
    · exact h
  · have hi : i < N := by simpa using hi
    rw [range_getD hi, range_getD hi]
    exact ht i

/-! What a loop's head knows. -/
inductive LK where
  | val (n : Nat) (agg : Bool)
  | ref (id : Nat)
  | ptr (id : Nat)
  | no
def okV : Cl → Bool
  | .c t _ _ => t.one
  | _ => false
def lk : Sl → LK
  | .one (.c t _ _) => bif t.one then .val 1 false else .no
  | .one (.rf id []) => .ref id
  | .one (.rp id [] 0 0) => .ptr id
  | .agg l => bif l.all okV then .val l.length true else .no
  | _ => .no
/-- a cell that is only read, by its value alone -/
def dyC : Cl → Option Dy
  | .c t d x => bif t.one && !(Cl.c t d x).own then some ⟨t, x⟩ else none
  | _ => none
def dyL : List Cl → Option (List Dy)
  | [] => some []
  | y :: l => match dyC y with
    | some z => match dyL l with
      | some m => some (z :: m)
      | none => none
    | none => none
def Dy.cl (y : Dy) : Cl := .c y.t 0 y.x

/-- the values of a slot, as the head's slot has them -/
def grabS (k : LK) (y : Sl) : Option (List Dy × List (Nat × Nat)) := match k, y with
  | .val _ false, .one c => match dyC c with
    | some z => some ([z], [])
    | none => none
  | .val n true, .agg l => bif Nat.beq l.length n then (match dyL l with
    | some m => some (m, [])
    | none => none) else none
  | .ref id, .one (.rf id' []) => some ([], [(id, id')])
  | .ptr id, .one (.rp id' [] 0 0) => some ([], [(id, id')])
  | .no, _ => some ([], [])
  | _, _ => none
def grabL (t0 : Nat → Sl) (t : Nat → Sl) : List Nat → Option (List Dy × List (Nat × Nat))
  | [] => some ([], [])
  | d :: L => match grabS (lk (t0 d)) (t d) with
    | some (a, b) => match grabL t0 t L with
      | some (a', b') => some (a ++ a', b ++ b')
      | none => none
    | none => none
def piF (m : List (Nat × Nat)) (i : Nat) : Nat := match m with
  | [] => i
  | (a, b) :: m => bif Nat.beq a i then b else piF m i
/-- the values of an owned cell -/
def dyA : List Cl → Option (List Dy)
  | [] => some []
  | .c t _ x :: l => bif t.one then (match dyA l with
    | some m => some (⟨t, x⟩ :: m)
    | none => none) else none
  | _ :: _ => none
def grabR1 : Root → Option (List Dy)
  | .arr _ t _ xs => some [⟨.sl t, xs⟩]
  | .obj _ l => dyA l
  | .dead => none
def grabR (r : List Root) (π : Nat → Nat) : List Nat → Option (List Dy)
  | [] => some []
  | id :: l => match grabR1 (r.getD (π id) .dead) with
    | some a => match grabR r π l with
      | some b => some (a ++ b)
      | none => none
    | none => none

/-- the head's slots, out of the values -/
def fillS (k : LK) (cs : List Dy) : Sl × List Dy := match k with
  | .val _ false => (match cs with
    | y :: _ => .one y.cl
    | [] => .one .dead, cs.drop 1)
  | .val n true => (.agg ((cs.take n).map Dy.cl), cs.drop n)
  | .ref id => (.one (.rf id []), cs)
  | .ptr id => (.one (.rp id [] 0 0), cs)
  | .no => (.one .dead, cs)
def fillL (t0 : Nat → Sl) : List Nat → List Dy → (Nat → Sl) → (Nat → Sl) × List Dy
  | [], cs, t => (t, cs)
  | d :: L, cs, t => fillL t0 L (fillS (lk (t0 d)) cs).2 (updT t d (fillS (lk (t0 d)) cs).1)
/-- the old tree's make with other values -/
def fillC : List Cl → List Dy → List Cl × List Dy
  | [], cs => ([], cs)
  | .c t d _ :: l, y :: cs => (match (if h : y.t = t then some (h ▸ y.x) else none : Option t.T) with
    | some x => .c t d x
    | none => .dead) :: (fillC l cs).1 |> fun m => (m, (fillC l cs).2)
  | _ :: l, cs => (.dead :: (fillC l cs).1, (fillC l cs).2)
def fillR1 : Root → List Dy → Root × List Dy
  | .arr _ t d _, y :: cs => (match y with
    | ⟨.sl t', xs⟩ => if h : t' = t then .arr false t d (h ▸ xs) else .dead
    | _ => .dead, cs)
  | .arr _ _ _ _, [] => (.dead, [])
  | .obj _ l, cs => (.obj false (fillC l cs).1, (fillC l cs).2)
  | .dead, cs => (.dead, cs)
def fillR (r0 : List Root) : List Nat → List Dy → List Root → List Root
  | [], _, r => r
  | id :: l, cs, r => fillR r0 l (fillR1 (r0.getD id .dead) cs).2 (r.set id (fillR1 (r0.getD id .dead) cs).1)
def setRo : Root → Root
  | .arr _ t d xs => .arr true t d xs
  | .obj _ l => .obj true l
  | .dead => .dead
/-- 'b': the loop's operations; L: the slots, Rh: the trees that the loop turns; 'ro': what it doesn't turn is only read -/
def headSt (ro : Bool) (b : List Oper) (L Rh : List Nat) (s0 : St) (cs : List Dy) : St :=
  let base : Nat → Sl := fun i => bif noDst b i && (s0.t i).stay then s0.t i else .one .dead
  let f := fillL s0.t L cs base
  ⟨f.1, fillR s0.r Rh f.2 (bif ro then s0.r.map setRo else s0.r)⟩
end Go.Ve
