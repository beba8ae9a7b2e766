/- The owned trees: one that is cut out of another; a store into one. -/
import Derived.Test.YtkafcpbbcpngdaaVk
namespace Go.Ve
open RowKit (Below)

/-- A change of references alone. -/
structure RefMap (G : V → V) : Prop where
  c : ∀ v, G (.c v) = .c v
  dead : G .dead = .dead
  nd : ∀ s own sz n f, G (.nd s own sz n f) = .nd s own sz n f
  many : ∀ t n f, G (.many t n f) = .many t n fun k => G (f k)

theorem RefMap.rel {G : V → V} (hG : RefMap G) {D : Nat → Prop} {w w' : World} {R R' : V → Value → Prop} (hD : ∀ b, D b → w'.heap[b]? = w.heap[b]?)
    (h1 : ∀ id p off len cv, R (.rs id p off len) cv → Rel D w' R' (G (.rs id p off len)) cv noF) (h2 : ∀ id p i k cv, R (.rp id p i k) cv → Rel D w' R' (G (.rp id p i k)) cv noF) :
    ∀ (v : V) (cv : Value) (fp : Nat → Prop), (∀ b, ¬ fp b) → Rel D w R v cv fp → Rel D w' R' (G v) cv noF := by
  intro v
  induction v with
  | c v => intro cv fp _ h; rw [hG.c]; exact ⟨h.1, h.2.1, fun _ h => h⟩
  | dead => intro cv fp _ h; rw [hG.dead]; exact fun _ h => h
  | many t n f ih =>
    intro cv fp hf h
    rw [hG.many]
    obtain ⟨cs, F, hcv, hn, hr, hd, hfp⟩ := h
    exact ⟨cs, fun _ => noF, hcv, hn, fun k hk => ih k _ _ (fun b hb => hf b ((hfp b).2 ⟨k, hk, hb⟩)) (hr k hk), fun _ _ _ _ _ _ h => h.elim, fun b => ⟨fun h => h.elim, fun ⟨_, _, h⟩ => h⟩⟩
  | nd s own sz n f _ =>
    intro cv fp hf h
    rw [hG.nd]
    have := noF_eq hf
    subst this
    exact Rel.nd_R (Rel.mono (fun _ h => h) (fun _ _ h => h) _ _ _ (fun b hb => hD b (hb.elim id fun h => h.elim)) h)
  | rs id p off len => intro cv fp _ h; exact h1 _ _ _ _ _ h.1
  | rp id p i k => intro cv fp _ h; exact h2 _ _ _ _ _ h.1

def rrV (id : Nat) (p : List (Nat × Nat)) (j : Nat) : V → V
  | .rs id' q off len => if id' = id ∧ isPre p q = true then .rs j (q.drop p.length) off len else .rs id' q off len
  | .rp id' q i k => if id' = id ∧ isPre p q = true then .rp j (q.drop p.length) i k else .rp id' q i k
  | .many t n f => .many t n fun k => rrV id p j (f k)
  | v => v

theorem rrV_map (id : Nat) (p : List (Nat × Nat)) (j : Nat) : RefMap (rrV id p j) := ⟨fun _ => rfl, rfl, fun _ _ _ _ _ => rfl, fun _ _ _ => rfl⟩

theorem getD_set_same {l : List V} {i : Nat} {x : V} (h : i < l.length) : (l.set i x).getD i .dead = x := by simp [h]
theorem getD_set_ne' {l : List V} {i j : Nat} {x : V} (h : i ≠ j) : (l.set i x).getD j .dead = l.getD j .dead := by
  simp only [List.getD_eq_getElem?_getD, List.getElem?_set_ne h]

/-- A node is cut out of its tree and is the root of a tree of its own. -/
theorem CR.reroot {C : Ctx} {σ ts : List V} {cts : Array Value} {w : World} {D : Nat → Prop} {ρ : Nat → Value} {F : Nat → Nat → Prop} (h : CR C σ ts cts w D ρ F) {id : Nat} {p : List (Nat × Nat)} {v1 : V} {c1 : Value} (hid : id < σ.length)
    (hat : At w p (σ.getD id .dead) (ρ id) v1 c1) : ∃ ρ' F', CR C (σ.set id (upd p (σ.getD id .dead) .dead) ++ [sub p (σ.getD id .dead)]) (ts.map (rrV id p σ.length)) cts w D ρ' F' ∧ ρ' σ.length = c1 ∧ (∀ i, i < σ.length → ρ' i = ρ i) ∧ ∀ i b, F' i b → ∃ j, F j b := by
  obtain ⟨fp1, hr1, hsub, hput⟩ := focus (w' := w) p _ _ _ _ _ (h.wr.rel id hid) (fun b hb h' => h.wr.dD id b h' hb) hat
  have hnew := hput .dead noF (fun _ h => h) (fun b hb => hb.elim) (fun _ _ _ => rfl)
  let ρ' : Nat → Value := fun i => if i = σ.length then c1 else ρ i
  let F' : Nat → Nat → Prop := fun i => if i = σ.length then fp1 else if i = id then fun b => (F id b ∧ ¬ fp1 b) ∨ noF b else F i
  have hsubeq : sub p (σ.getD id .dead) = v1 := (At.sub hat).symm
  have hF'sub : ∀ i b, F' i b → ∃ j, F j b := by
    intro i b hb
    simp only [F'] at hb
    split at hb
    · exact ⟨id, hsub b hb⟩
    · split at hb
      · exact ⟨id, hb.elim (fun h => h.1) fun h => h.elim⟩
      · exact ⟨i, hb⟩
  have wr' : WRel (σ.set id (upd p (σ.getD id .dead) .dead) ++ [sub p (σ.getD id .dead)]) w D ρ' F' := by
    refine ⟨fun i hi => ?_, fun i j b hij hb hb' => ?_, fun i b hb hD => ?_, h.wr.Dlt, fun i b hi hb => ?_⟩
    · by_cases he : i = σ.length
      · subst he
        simp only [ρ', F', if_true]
        rw [hsubeq]
        simpa using hr1
      · have hi' : i < σ.length := by simp at hi; omega
        rw [getD_app_l (by simpa using hi')]
        simp only [ρ', F', he, if_false]
        by_cases he2 : i = id
        · subst he2
          rw [getD_set_same hid]
          simpa using hnew
        · rw [getD_set_ne' (Ne.symm he2)]
          simpa [he2] using h.wr.rel i hi'
    · simp only [F'] at hb hb'
      by_cases he : i = σ.length <;> by_cases he' : j = σ.length
      · omega
      · simp only [he, if_true, he', if_false] at hb hb'
        split at hb'
        · rcases hb' with hb' | hb'
          · exact hb'.2 hb
          · exact hb'
        · exact h.wr.disj id j b (fun e => by rename_i hne; exact hne e.symm) (hsub b hb) hb'
      · simp only [he', if_true, he, if_false] at hb hb'
        split at hb
        · rcases hb with hb | hb
          · exact hb.2 hb'
          · exact hb
        · exact h.wr.disj i id b (by assumption) hb (hsub b hb')
      · simp only [he, he', if_false] at hb hb'
        have e1 : F i b := by
          split at hb
          · rename_i e; subst e; exact hb.elim (fun h => h.1) fun h => h.elim
          · exact hb
        have e2 : F j b := by
          split at hb'
          · rename_i e; subst e; exact hb'.elim (fun h => h.1) fun h => h.elim
          · exact hb'
        exact h.wr.disj i j b hij e1 e2
    · obtain ⟨j, hj⟩ := hF'sub i b hb; exact h.wr.dD j b hj hD
    · simp at hi
      simp only [F', show i ≠ σ.length by omega, show i ≠ id by omega, if_false] at hb
      exact h.wr.out i b (by omega) hb
  refine ⟨ρ', F', ⟨wr', by simpa using h.sz, fun t ht => ?_, h.fr, fun i b hb => ?_, h.D1, h.D2, fun i hi => ?_, by have := h.ml; simp; omega⟩, by simp [ρ'], fun i hi => by simp [ρ', show i ≠ σ.length by omega], hF'sub⟩
  · simp at ht
    have e1 : (ts.map (rrV id p σ.length)).getD t .dead = rrV id p σ.length (ts.getD t .dead) := by simp [ht]
    rw [e1]
    have hlen : (σ.set id (upd p (σ.getD id .dead) .dead) ++ [sub p (σ.getD id .dead)]).length = σ.length + 1 := by simp
    have hge : (σ.set id (upd p (σ.getD id .dead) .dead) ++ [sub p (σ.getD id .dead)]).getD σ.length .dead = v1 := by rw [← hsubeq]; simp
    -- one reference
    have key : ∀ (id' : Nat) (q : List (Nat × Nat)) (s : Bool) (sz n : Nat) (f : Nat → Nat → V) (c : Value), id' < σ.length → At w q (σ.getD id' .dead) (ρ id') (.nd s true sz n f) c →
        (id' = id ∧ isPre p q = true → At w (q.drop p.length) v1 c1 (.nd s true sz n f) c) ∧
        (¬ (id' = id ∧ isPre p q = true) → ∃ f', At w q ((σ.set id (upd p (σ.getD id .dead) .dead) ++ [sub p (σ.getD id .dead)]).getD id' .dead) (ρ' id') (.nd s true sz n f') c) := by
      intro id' q s sz n f c hid' ha
      constructor
      · rintro ⟨rfl, hpre⟩
        rw [isPre_app hpre] at ha
        exact At.split ha hat
      · intro hn
        rw [getD_app_l (by simpa using hid')]
        have eρ : ρ' id' = ρ id' := by simp [ρ', show id' ≠ σ.length by omega]
        rw [eρ]
        by_cases he : id' = id
        · subst he
          rw [getD_set_same hid]
          exact At.keep p q _ _ (At.ok hat) (by simpa using hn) ha
        · rw [getD_set_ne' (Ne.symm he)]
          exact ⟨f, ha⟩
    refine (rrV_map id p σ.length).rel (fun _ _ => rfl) ?_ ?_ _ _ noF (fun _ h => h) (h.tm t ht)
    · rintro id' q off len cv ⟨hid', sz, n, f, cn, ha, hle, hcv⟩
      obtain ⟨k1, k2⟩ := key id' q true sz n f cn hid' ha
      simp only [rrV]
      split
      · rename_i hc
        exact ⟨⟨by rw [hlen]; omega, sz, n, f, cn, by rw [hge]; simpa [ρ'] using k1 hc, hle, hcv⟩, fun _ h => h⟩
      · rename_i hc
        obtain ⟨f', ha'⟩ := k2 hc
        exact ⟨⟨by rw [hlen]; omega, sz, n, f', cn, ha', hle, hcv⟩, fun _ h => h⟩
    · rintro id' q i k cv ⟨hid', s, sz, n, f, b, o, cap, ha, hi, hk, hcv⟩
      obtain ⟨k1, k2⟩ := key id' q s sz n f _ hid' ha
      simp only [rrV]
      split
      · rename_i hc
        exact ⟨⟨by rw [hlen]; omega, s, sz, n, f, b, o, cap, by rw [hge]; simpa [ρ'] using k1 hc, hi, hk, hcv⟩, fun _ h => h⟩
      · rename_i hc
        obtain ⟨f', ha'⟩ := k2 hc
        exact ⟨⟨by rw [hlen]; omega, s, sz, n, f', b, o, cap, ha', hi, hk, hcv⟩, fun _ h => h⟩
  · obtain ⟨j, hj⟩ := hF'sub i b hb; exact h.Fn j b hj
  · have := h.ml
    simp only [ρ', show i ≠ σ.length by omega, if_false]
    exact h.rt i hi

end Go.Ve
