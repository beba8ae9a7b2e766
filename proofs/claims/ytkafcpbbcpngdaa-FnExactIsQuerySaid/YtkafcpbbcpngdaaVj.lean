/- The owned trees: a new one, one that is cut out of another, a store into one. -/
import Derived.Test.YtkafcpbbcpngdaaVi
namespace Go.Ve
open RowKit (Below)

def isPre : List (Nat × Nat) → List (Nat × Nat) → Bool
  | [], _ => true
  | (i, k) :: p, (j, l) :: q => i == j && k == l && isPre p q
  | _ :: _, [] => false

theorem isPre_app : ∀ {p q : List (Nat × Nat)}, isPre p q = true → q = p ++ q.drop p.length
  | [], _, _ => rfl
  | (i, k) :: p, (j, l) :: q, h => by
    simp only [isPre, Bool.and_eq_true, beq_iff_eq] at h
    obtain ⟨⟨rfl, rfl⟩, h⟩ := h
    simp [← isPre_app h]
  | _ :: _, [], h => by cases h

theorem At.split {w : World} : ∀ {p q : List (Nat × Nat)} {v : V} {cv : Value} {v' : V} {cv' : Value} {v1 : V} {c1 : Value}, At w (p ++ q) v cv v' cv' → At w p v cv v1 c1 → At w q v1 c1 v' cv'
  | [], _, _, _, _, _, _, _, h, h1 => by obtain ⟨rfl, rfl⟩ := h1; exact h
  | (i, k) :: p, q, .nd s true sz n f, _, _, _, _, _, h, h1 => by
    obtain ⟨_, _, b, o, cap, x, hcv, hx, h⟩ := h
    obtain ⟨_, _, b', o', cap', x', hcv', hx', h1⟩ := h1
    subst hcv
    obtain ⟨rfl, rfl, _⟩ := header_inj hcv'
    have : x' = x := Option.some.inj (hx'.symm.trans hx)
    subst this
    exact At.split h h1
  | _ :: _, _, .nd _ false _ _ _, _, _, _, _, _, h, _ => h.elim
  | _ :: _, _, .c _, _, _, _, _, _, h, _ => h.elim
  | _ :: _, _, .dead, _, _, _, _, _, h, _ => h.elim
  | _ :: _, _, .many .., _, _, _, _, _, h, _ => h.elim
  | _ :: _, _, .rs .., _, _, _, _, _, h, _ => h.elim
  | _ :: _, _, .rp .., _, _, _, _, _, h, _ => h.elim

/-- Off the path nothing turns. -/
theorem At.keep {w : World} {x : V} : ∀ (p q : List (Nat × Nat)) (v : V) (cv : Value) {s : Bool} {sz n : Nat} {f : Nat → Nat → V} {c : Value}, PathOK p v → isPre p q = false → At w q v cv (.nd s true sz n f) c →
    ∃ f', At w q (upd p v x) cv (.nd s true sz n f') c
  | [], _, _, _, _, _, _, _, _, _, h, _ => by cases h
  | (i, k) :: p, [], .nd s0 o0 sz0 n0 f0, _, _, _, _, _, _, _, _, ha => by
    obtain ⟨h1, rfl⟩ := ha
    cases h1
    exact ⟨_, rfl, rfl⟩
  | (i, k) :: p, (i', k') :: q, .nd s0 true sz0 n0 f0, cv, s, sz, n, f, c, hp, hpre, ha => by
    obtain ⟨h1, h2, b, o, cap, y, hcv, hy, ha⟩ := ha
    obtain ⟨_, _, _, hp⟩ := hp
    by_cases he : i' = i ∧ k' = k
    · obtain ⟨rfl, rfl⟩ := he
      obtain ⟨f', hf'⟩ := At.keep p q (f0 i' k') y hp (by simpa [isPre] using hpre) ha
      exact ⟨f', h1, h2, b, o, cap, y, hcv, hy, by simpa using hf'⟩
    · exact ⟨f, h1, h2, b, o, cap, y, hcv, hy, by simpa [he] using ha⟩
  | _ :: _, _ :: _, .nd _ false _ _ _, _, _, _, _, _, _, _, _, h => h.elim
  | _ :: _, _, .c _, _, _, _, _, _, _, hp, _, _ => hp.elim
  | _ :: _, _, .dead, _, _, _, _, _, _, hp, _, _ => hp.elim
  | _ :: _, _, .many .., _, _, _, _, _, _, hp, _, _ => hp.elim
  | _ :: _, _, .rs .., _, _, _, _, _, _, hp, _, _ => hp.elim
  | _ :: _, _, .rp .., _, _, _, _, _, _, hp, _, _ => hp.elim

theorem cell_ne {sz i k i' k' : Nat} (hk : k < sz) (hk' : k' < sz) (h : ¬ (i' = i ∧ k' = k)) : i' * sz + k' ≠ i * sz + k := by
  intro he
  have h1 : (i' * sz + k') % sz = (i * sz + k) % sz := by rw [he]
  rw [Nat.mul_comm i', Nat.mul_comm i, Nat.mul_add_mod, Nat.mul_add_mod, Nat.mod_eq_of_lt hk', Nat.mod_eq_of_lt hk] at h1
  have h2 : (i' * sz + k') / sz = (i * sz + k) / sz := by rw [he]
  rw [Nat.mul_comm i', Nat.mul_comm i, Nat.mul_add_div (by omega), Nat.mul_add_div (by omega), Nat.div_eq_of_lt hk', Nat.div_eq_of_lt hk] at h2
  exact h ⟨by omega, h1⟩

/-- A cell of a node is written: what lies off that cell is there still. -/
theorem At.store {D : Nat → Prop} {w w' : World} {x : V} {s : Bool} {sz n : Nat} {f : Nat → Nat → V} {b o cap i k : Nat} (hi : i < n) (hk : k < sz)
    (hw : ∀ ad, ad ≠ (⟨b, o + i * sz + k, none⟩ : Addr) → w'.cell? ad = w.cell? ad) (hb : ∀ c, c ≠ b → w'.heap[c]? = w.heap[c]?) :
    ∀ (p q : List (Nat × Nat)) (v : V) (cv : Value) (fp : Nat → Prop) {s1 : Bool} {sz1 n1 : Nat} {f1 : Nat → Nat → V} {c1 : Value}, Rel D w noR v cv fp → At w p v cv (.nd s true sz n f) (header s b o n cap) →
      isPre (p ++ [(i, k)]) q = false → At w q v cv (.nd s1 true sz1 n1 f1) c1 → ∃ f1', At w' q (upd (p ++ [(i, k)]) v x) cv (.nd s1 true sz1 n1 f1') c1
  | p, [], v, cv, fp, s1, sz1, n1, f1, c1, hr, hp, hpre, ha => by
    obtain ⟨rfl, rfl⟩ := ha
    cases p with
    | nil => exact ⟨_, rfl, rfl⟩
    | cons a p => exact ⟨_, rfl, rfl⟩
  | [], (i', k') :: q, v, cv, fp, s1, sz1, n1, f1, c1, hr, hp, hpre, ha => by
    obtain ⟨rfl, rfl⟩ := hp
    have hne : ¬ (i' = i ∧ k' = k) := by
      rintro ⟨rfl, rfl⟩
      simp [isPre] at hpre
    obtain ⟨h1, h2, b0, o0, cap0, y, hcv, hy, ha⟩ := ha
    obtain ⟨rfl, rfl, _⟩ := header_inj hcv
    have hroot := Rel.root hr
    rcases hr with ⟨h0, _⟩ | ⟨b2, o2, cap2, F, hcv2, hcap, hmax, hs1, hc, himm, ho⟩
    · omega
    obtain ⟨rfl, rfl, _⟩ := header_inj hcv2
    obtain ⟨y', hy', hry⟩ := hc i' k' h1 h2
    have : y' = y := Option.some.inj (hy'.symm.trans hy)
    subst this
    refine ⟨f1, h1, h2, b, o, cap0, y', hcv, by rw [hw _ (by have := cell_ne (i := i) hk h2 hne; intro h; simp at h; try omega)]; exact hy, ?_⟩
    simp only [hne, if_false]
    exact At.same hry ha fun c hcF => hb c fun e => (ho rfl).2.1 i' k' h1 h2 (e ▸ hcF)
  | (i0, k0) :: p, (i', k') :: q, .nd s0 true sz0 n0 f0, cv, fp, s1, sz1, n1, f1, c1, hr, hp, hpre, ha => by
    obtain ⟨h1, h2, b0, o0, cap0, y, rfl, hy, ha⟩ := ha
    obtain ⟨h3, h4, b3, o3, cap3, z, hcv3, hz, hp⟩ := hp
    obtain ⟨rfl, rfl, _⟩ := header_inj hcv3
    rcases hr with ⟨h0, _⟩ | ⟨b2, o2, cap2, F, hcv2, hcap, hmax, hs1, hc, himm, ho⟩
    · omega
    obtain ⟨rfl, rfl, _⟩ := header_inj hcv2
    obtain ⟨y', hy', hry⟩ := hc i' k' h1 h2
    have : y' = y := Option.some.inj (hy'.symm.trans hy)
    subst this
    obtain ⟨z', hz', hrz⟩ := hc i0 k0 h3 h4
    have : z' = z := Option.some.inj (hz'.symm.trans hz)
    subst this
    obtain ⟨fz, hrn, hsub, _⟩ : ∃ fz, Rel D w noR (.nd s true sz n f) (header s b o n cap) fz ∧ (∀ c, fz c → F i0 k0 c) ∧ True := by
      clear hw hb
      have : ∀ (p : List (Nat × Nat)) (v : V) (cv : Value) (fp : Nat → Prop) (v1 : V) (c1 : Value), Rel D w noR v cv fp → At w p v cv v1 c1 → ∃ fz, Rel D w noR v1 c1 fz ∧ (∀ c, fz c → fp c) := by
        intro p
        induction p with
        | nil => intro v cv fp v1 c1 hr ha; obtain ⟨rfl, rfl⟩ := ha; exact ⟨fp, hr, fun _ h => h⟩
        | cons a p ih =>
          intro v cv fp v1 c1 hr ha
          obtain ⟨i, k⟩ := a
          match v, ha, hr with
          | .nd s true sz n f, ha, hr =>
            obtain ⟨h1, h2, b, o, cap, y, rfl, hy, ha⟩ := ha
            rcases hr with ⟨h0, _⟩ | ⟨b2, o2, cap2, F, hcv2, hcap, hmax, hs1, hc, himm, ho⟩
            · omega
            obtain ⟨rfl, rfl, _⟩ := header_inj hcv2
            obtain ⟨y', hy', hry⟩ := hc i k h1 h2
            have : y' = y := Option.some.inj (hy'.symm.trans hy)
            subst this
            obtain ⟨fz, h1', h2'⟩ := ih _ _ _ _ _ hry ha
            exact ⟨fz, h1', fun c hc => ((ho rfl).2.2.2 c).2 (.inr ⟨i, k, h1, h2, h2' c hc⟩)⟩
      obtain ⟨fz, h1', h2'⟩ := this p _ _ _ _ _ hrz hp
      exact ⟨fz, h1', h2', trivial⟩
    have hbF : F i0 k0 b := hsub b (Rel.root hrn)
    have hbne : b0 ≠ b := fun e => (ho rfl).2.1 i0 k0 h3 h4 (e ▸ hbF)
    have hcell : w'.cell? ⟨b0, o0 + i' * sz0 + k', none⟩ = some y' := by rw [hw _ (by intro h; simp at h; try exact hbne h.1)]; exact hy
    by_cases he : i' = i0 ∧ k' = k0
    · obtain ⟨rfl, rfl⟩ := he
      have : z' = y' := Option.some.inj (hz'.symm.trans hy')
      subst this
      obtain ⟨f1', h1'⟩ := At.store hi hk hw hb p q (f0 i' k') z' _ hry hp (by simpa [isPre] using hpre) ha
      exact ⟨f1', h1, h2, b0, o0, cap0, z', rfl, hcell, by simpa using h1'⟩
    · refine ⟨f1, h1, h2, b0, o0, cap0, y', rfl, hcell, ?_⟩
      simp only [he, if_false]
      exact At.same hry ha fun c hcF => hb c fun e => (ho rfl).2.2.1 i' k' i0 k0 c h1 h2 h3 h4 (by omega) hcF (e ▸ hbF)
  | _ :: _, _ :: _, .nd _ false _ _ _, _, _, _, _, _, _, _, _, _, _, h => h.elim
  | _ :: _, _ :: _, .c _, _, _, _, _, _, _, _, _, _, _, h => h.elim
  | _ :: _, _ :: _, .dead, _, _, _, _, _, _, _, _, _, _, h => h.elim
  | _ :: _, _ :: _, .many .., _, _, _, _, _, _, _, _, _, _, h => h.elim
  | _ :: _, _ :: _, .rs .., _, _, _, _, _, _, _, _, _, _, h => h.elim
  | _ :: _, _ :: _, .rp .., _, _, _, _, _, _, _, _, _, _, h => h.elim

end Go.Ve
