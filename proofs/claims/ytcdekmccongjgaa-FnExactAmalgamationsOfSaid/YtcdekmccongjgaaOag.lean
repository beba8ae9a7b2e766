/- Fractions: cancelling; the three conditions together. -/
import Derived.Test.YtcdekmccongjgaaOae
namespace Go.Ve.D
open Go Go.Ve

def outL (c : Cat) (x : Int) : List Int := ((List.range (ar c)).filter fun f => decide (fT c f = x)).map fun (f : Nat) => (f : Int)
def intoL (c : Cat) (x : Int) : List Int := ((List.range (ar c)).filter fun f => decide (tT c f = x)).map fun (f : Nat) => (f : Int)
theorem p148 {c : Cat} (hm : c.2.1.length ≤ 1048576) (x : Int) : G148 (c, x) = some (outL c x) := by
  obtain ⟨c1, c2, c3, c4, c5⟩ := c
  unfold G148
  simp only at hm ⊢
  refine bind_of (v := .brk 0 ((c2.length : Int), outL (c1, (c2, (c3, (c4, c5)))) x)) (gather (fun i hi acc ha => ?_) fun acc => ?_) rfl
  · simp only [lt_cast, hi, decide_true, cond_true, in_cast hi, if_true, and_self, Int.toNat_natCast, List.length_cons, List.length_nil]
    rw [wrap_sm (by omega) (by omega), if_pos (show acc.length + (0 + 1) ≤ 17592186044416 by omega)]
    show _ = some (LO.next (((i + 1 : Nat) : Int), bif decide (c2.getD i 0 = x) then acc ++ [(i : Int)] else acc))
    cases decide (c2.getD i 0 = x) <;> rfl
  · simp only [lt_cast, Nat.lt_irrefl, decide_false, cond_false]
theorem fm_get {m : Nat} {q : Nat → Bool} {i : Nat} (hi : i < (((List.range m).filter q).map fun (f : Nat) => (f : Int)).length) : ∃ f : Nat, f < m ∧ q f = true ∧ (((List.range m).filter q).map fun (f : Nat) => (f : Int)).getD i 0 = (f : Int) := by
  have hm := getD_mem' (0 : Int) hi
  obtain ⟨f, hf, e⟩ := List.mem_map.1 hm
  obtain ⟨h1, h2⟩ := List.mem_filter.1 hf
  exact ⟨f, List.mem_range.1 h1, h2, e.symm⟩
theorem fm_len {m : Nat} {q : Nat → Bool} : (((List.range m).filter q).map fun (f : Nat) => (f : Int)).length ≤ m := by
  rw [List.length_map]
  have := List.length_filter_le q (List.range m)
  rwa [List.length_range] at this
theorem take_any {x : List Int} {q : Int → Bool} {i : Nat} (hi : i < x.length) : (x.take (i + 1)).any q = ((x.take i).any q || q (x.getD i 0)) := by
  rw [← take_snoc 0 hi, List.any_append]; simp

/-- an arrow of the set makes them equal from behind; from ahead -/
def post (c : Cat) (f g : Nat) (v : Int) : Bool := decide (c.2.1.getD v.toNat 0 = tT c f) && decide (T c f v.toNat = T c g v.toNat)
def prec (c : Cat) (f g : Nat) (v : Int) : Bool := decide (c.2.2.1.getD v.toNat 0 = fT c f) && decide (T c v.toNat f = T c v.toNat g)
def canc (c : Cat) (w : List Int) (f g : Nat) : Bool := !w.any (post c f g) || w.any (prec c f g)
end Go.Ve.D

