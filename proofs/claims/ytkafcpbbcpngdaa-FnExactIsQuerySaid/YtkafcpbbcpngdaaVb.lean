/- Paths into owned trees: what lies there, and that a tree may be changed at one place. -/
import Derived.Test.YtkafcpbbcpngdaaVa
namespace Go.Ve

def sub : List (Nat × Nat) → V → V
  | [], v => v
  | (i, k) :: p, .nd _ _ _ _ f => sub p (f i k)
  | _ :: _, _ => .dead

def upd : List (Nat × Nat) → V → V → V
  | [], _, x => x
  | (i, k) :: p, .nd s o sz n f, x => .nd s o sz n fun i' k' => if i' = i ∧ k' = k then upd p (f i k) x else f i' k'
  | _ :: _, v, _ => v

/-- Down the path 'p' from the owned tree v (the value cv) one comes to v' (the value cv'). -/
def At (w : World) : List (Nat × Nat) → V → Value → V → Value → Prop
  | [], v, cv, v', cv' => v' = v ∧ cv' = cv
  | (i, k) :: p, .nd s true sz n f, cv, v', cv' => i < n ∧ k < sz ∧ ∃ b o cap x, cv = header s b o n cap ∧ w.cell? ⟨b, o + i * sz + k, none⟩ = some x ∧ At w p (f i k) x v' cv'
  | _ :: _, _, _, _, _ => False

/-- The path's steps are in range. -/
def PathOK : List (Nat × Nat) → V → Prop
  | [], _ => True
  | (i, k) :: p, .nd _ own sz n f => own = true ∧ i < n ∧ k < sz ∧ PathOK p (f i k)
  | _ :: _, _ => False

theorem header_inj {s : Bool} {b o n cap b' o' cap' : Nat} (h : header s b o n cap = header s b' o' n cap') : b = b' ∧ o = o' ∧ (s = true → cap = cap') := by
  cases s
  · simp [header] at h; exact ⟨h.1, h.2, fun h => by cases h⟩
  · simp [header] at h; exact ⟨h.1.1, h.1.2, fun _ => h.2⟩

theorem At.sub {w : World} : ∀ {p : List (Nat × Nat)} {v : V} {cv : Value} {v' : V} {cv' : Value}, At w p v cv v' cv' → v' = sub p v
  | [], _, _, _, _, h => h.1
  | (i, k) :: p, .nd s true sz n f, _, v', _, h => by obtain ⟨_, _, _, _, _, x, _, _, h⟩ := h; exact (show v' = Go.Ve.sub p (f i k) from At.sub h)
  | _ :: _, .nd _ false _ _ _, _, _, _, h => h.elim
  | _ :: _, .c _, _, _, _, h => h.elim
  | _ :: _, .dead, _, _, _, h => h.elim
  | _ :: _, .many .., _, _, _, h => h.elim
  | _ :: _, .rs .., _, _, _, h => h.elim
  | _ :: _, .rp .., _, _, _, h => h.elim

theorem At.ok {w : World} : ∀ {p : List (Nat × Nat)} {v : V} {cv : Value} {v' : V} {cv' : Value}, At w p v cv v' cv' → PathOK p v
  | [], _, _, _, _, h => trivial
  | (i, k) :: p, .nd s true sz n f, _, _, _, h => by obtain ⟨h1, h2, _, _, _, x, _, _, h⟩ := h; exact ⟨rfl, h1, h2, At.ok h⟩
  | _ :: _, .nd _ false _ _ _, _, _, _, h => h.elim
  | _ :: _, .c _, _, _, _, h => h.elim
  | _ :: _, .dead, _, _, _, h => h.elim
  | _ :: _, .many .., _, _, _, h => h.elim
  | _ :: _, .rs .., _, _, _, h => h.elim
  | _ :: _, .rp .., _, _, _, h => h.elim

theorem At.app {w : World} : ∀ {p q : List (Nat × Nat)} {v : V} {cv : Value} {v' : V} {cv' : Value} {v'' : V} {cv'' : Value}, At w p v cv v' cv' → At w q v' cv' v'' cv'' → At w (p ++ q) v cv v'' cv''
  | [], _, _, _, _, _, _, _, h, h' => by obtain ⟨rfl, rfl⟩ := h; exact h'
  | (i, k) :: p, _, .nd s true sz n f, _, _, _, _, _, h, h' => by
    obtain ⟨h1, h2, b, o, cap, x, h3, h4, h5⟩ := h
    exact ⟨h1, h2, b, o, cap, x, h3, h4, At.app h5 h'⟩
  | _ :: _, _, .nd _ false _ _ _, _, _, _, _, _, h, _ => h.elim
  | _ :: _, _, .c _, _, _, _, _, _, h, _ => h.elim
  | _ :: _, _, .dead, _, _, _, _, _, h, _ => h.elim
  | _ :: _, _, .many .., _, _, _, _, _, h, _ => h.elim
  | _ :: _, _, .rs .., _, _, _, _, _, h, _ => h.elim
  | _ :: _, _, .rp .., _, _, _, _, _, h, _ => h.elim

theorem sub_app : ∀ (p q : List (Nat × Nat)) (v : V), sub (p ++ q) v = sub q (sub p v)
  | [], _, _ => rfl
  | (i, k) :: p, q, .nd _ _ _ _ f => sub_app p q (f i k)
  | _ :: _, [], .c _ => rfl
  | _ :: _, _ :: _, .c _ => rfl
  | _ :: _, [], .dead => rfl
  | _ :: _, _ :: _, .dead => rfl
  | _ :: _, [], .many .. => rfl
  | _ :: _, _ :: _, .many .. => rfl
  | _ :: _, [], .rs .. => rfl
  | _ :: _, _ :: _, .rs .. => rfl
  | _ :: _, [], .rp .. => rfl
  | _ :: _, _ :: _, .rp .. => rfl

/-- The root of an owned node lies in its footprint. -/
theorem Rel.root {D : Nat → Prop} {w : World} {R : V → Value → Prop} {s : Bool} {sz n : Nat} {f : Nat → Nat → V} {b o cap : Nat} {fp : Nat → Prop} (h : Rel D w R (.nd s true sz n f) (header s b o n cap) fp) : fp b := by
  rcases h with ⟨_, rfl, h3, _⟩ | ⟨b', o', cap', F, hcv, _, _, _, _, _, ho⟩
  · exact absurd h3 nilO_header
  · obtain ⟨rfl, -, -⟩ := header_inj hcv
    exact ((ho rfl).2.2.2 b).2 (.inl rfl)

theorem focus {D : Nat → Prop} {w w' : World} : ∀ (p : List (Nat × Nat)) (v : V) (cv : Value) (fp : Nat → Prop) (v1 : V) (cv1 : Value),
    Rel D w noR v cv fp → (∀ b, D b → ¬ fp b) → At w p v cv v1 cv1 →
    ∃ fp1, Rel D w noR v1 cv1 fp1 ∧ (∀ b, fp1 b → fp b) ∧ ∀ v2 fp2, Rel D w' noR v2 cv1 fp2 → (∀ b, fp2 b → fp1 b ∨ ¬ fp b) →
      (∀ b, (D b ∨ fp b) → ¬ fp1 b → w'.heap[b]? = w.heap[b]?) → Rel D w' noR (upd p v v2) cv (fun b => (fp b ∧ ¬ fp1 b) ∨ fp2 b) := by
  intro p
  induction p with
  | nil =>
    intro v cv fp v1 cv1 hr hD ha
    obtain ⟨rfl, rfl⟩ := ha
    refine ⟨fp, hr, fun _ h => h, fun v2 fp2 h2 hs hw => Rel.fp_congr (fun b => ?_) h2⟩
    exact ⟨fun h => .inr h, fun h => h.elim (fun h => absurd h.1 h.2) id⟩
  | cons ik p ih =>
    obtain ⟨i, k⟩ := ik
    intro v cv fp v1 cv1 hr hD ha
    match v, ha, hr with
    | .nd s true sz n f, ha, hr =>
      obtain ⟨hi, hk, b, o, cap, x, hcv, hx, ha⟩ := ha
      rcases hr with ⟨h0, _⟩ | ⟨b', o', cap', F, hcv', hcap, hmax, hs1, hc, himm, ho⟩
      · omega
      subst hcv
      obtain ⟨rfl, rfl, hcc⟩ := header_inj hcv'
      obtain ⟨⟨cs, T, hb1, hb2⟩, hbF, hFd, hfp⟩ := ho rfl
      obtain ⟨x', hx', hrx⟩ := hc i k hi hk
      have : x' = x := Option.some.inj (hx'.symm.trans hx)
      subst this
      have hsub : ∀ c, F i k c → fp c := fun c hc => (hfp c).2 (.inr ⟨i, k, hi, hk, hc⟩)
      obtain ⟨fp1, hr1, hs, hput⟩ := ih _ _ _ _ _ hrx (fun c hc h => hD c hc (hsub c h)) ha
      refine ⟨fp1, hr1, fun c hc => hsub c (hs c hc), fun v2 fp2 h2 hs2 hw => ?_⟩
      have hbfp : fp b := (hfp b).2 (.inl rfl)
      have hb1' : ¬ fp1 b := fun h => hbF i k hi hk (hs b h)
      have hwb : w'.heap[b]? = w.heap[b]? := hw b (.inr hbfp) hb1'
      have hnew := hput v2 fp2 h2 (fun c hc => (hs2 c hc).imp id fun h h' => h (hsub c h')) (fun c hc hn => hw c (hc.imp id (hsub c)) hn)
      refine .inr ⟨b, o, cap', fun i' k' c => if i' = i ∧ k' = k then (F i k c ∧ ¬ fp1 c) ∨ fp2 c else F i' k' c, hcv', hcap, hmax, hs1, ?_, (fun h => by cases h), fun _ => ⟨⟨cs, T, hwb.trans hb1, hb2⟩, ?_, ?_, ?_⟩⟩
      · intro i' k' hi' hk'
        by_cases he : i' = i ∧ k' = k
        · obtain ⟨rfl, rfl⟩ := he
          exact ⟨x', by rw [cell?_same (w := w) hwb]; exact hx, by simpa using hnew⟩
        · obtain ⟨y, hy, hry⟩ := hc i' k' hi' hk'
          refine ⟨y, by rw [cell?_same (w := w) hwb]; exact hy, ?_⟩
          simp only [he, if_false]
          refine Rel.mono (fun _ h => h) (fun _ _ h => h) _ _ _ (fun c hc => hw c (hc.imp id fun h => (hfp c).2 (.inr ⟨i', k', hi', hk', h⟩)) ?_) hry
          intro h1
          rcases hc with hcD | hcF
          · exact hD c hcD (hsub c (hs c h1))
          · exact hFd i' k' i k c hi' hk' hi hk (by omega) hcF (hs c h1)
      · intro i' k' hi' hk'
        by_cases he : i' = i ∧ k' = k
        · simp only [he, and_self, if_true]
          rintro (⟨h, _⟩ | h)
          · exact hbF i k hi hk h
          · rcases hs2 b h with h | h
            · exact hb1' h
            · exact h hbfp
        · simp only [he, if_false]; exact hbF i' k' hi' hk'
      · intro i1 k1 i2 k2 c h1 h2' h3 h4 hne hF1 hF2
        by_cases he1 : i1 = i ∧ k1 = k <;> by_cases he2 : i2 = i ∧ k2 = k
        · omega
        · simp only [he1, and_self, if_true] at hF1
          simp only [he2, if_false] at hF2
          rcases hF1 with ⟨h, _⟩ | h
          · exact hFd i k i2 k2 c hi hk h3 h4 (by omega) h hF2
          · rcases hs2 c h with h | h
            · exact hFd i k i2 k2 c hi hk h3 h4 (by omega) (hs c h) hF2
            · exact h ((hfp c).2 (.inr ⟨i2, k2, h3, h4, hF2⟩))
        · simp only [he2, and_self, if_true] at hF2
          simp only [he1, if_false] at hF1
          rcases hF2 with ⟨h, _⟩ | h
          · exact hFd i k i1 k1 c hi hk h1 h2' (by omega) h hF1
          · rcases hs2 c h with h | h
            · exact hFd i k i1 k1 c hi hk h1 h2' (by omega) (hs c h) hF1
            · exact h ((hfp c).2 (.inr ⟨i1, k1, h1, h2', hF1⟩))
        · simp only [he1, if_false] at hF1
          simp only [he2, if_false] at hF2
          exact hFd i1 k1 i2 k2 c h1 h2' h3 h4 hne hF1 hF2
      · intro c
        constructor
        · rintro (⟨hc, hn⟩ | hc)
          · rcases (hfp c).1 hc with rfl | ⟨i', k', hi', hk', hF⟩
            · exact .inl rfl
            · refine .inr ⟨i', k', hi', hk', ?_⟩
              by_cases he : i' = i ∧ k' = k
              · simp only [he, and_self, if_true]; rw [he.1, he.2] at hF; exact .inl ⟨hF, hn⟩
              · simp only [he, if_false]; exact hF
          · exact .inr ⟨i, k, hi, hk, by simp only [and_self, if_true]; exact .inr hc⟩
        · rintro (rfl | ⟨i', k', hi', hk', hF⟩)
          · exact .inl ⟨hbfp, hb1'⟩
          · by_cases he : i' = i ∧ k' = k
            · simp only [he, and_self, if_true] at hF
              rcases hF with ⟨h, hn⟩ | h
              · exact .inl ⟨hsub c h, hn⟩
              · exact .inr h
            · simp only [he, if_false] at hF
              exact .inl ⟨(hfp c).2 (.inr ⟨i', k', hi', hk', hF⟩), fun h1 => hFd i' k' i k c hi' hk' hi hk (by omega) hF (hs c h1)⟩

/-- What is at a path is there still where the tree's blocks are as they were. -/
theorem At.same {D : Nat → Prop} {w w' : World} : ∀ {p : List (Nat × Nat)} {v : V} {cv : Value} {fp : Nat → Prop} {v1 : V} {cv1 : Value},
    Rel D w noR v cv fp → At w p v cv v1 cv1 → (∀ b, fp b → w'.heap[b]? = w.heap[b]?) → At w' p v cv v1 cv1
  | [], _, _, _, _, _, _, ha, _ => ha
  | (i, k) :: p, .nd s true sz n f, cv, fp, v1, cv1, hr, ha, hw => by
    obtain ⟨hi, hk, b, o, cap, x, hcv, hx, ha⟩ := ha
    subst hcv
    have hb := Rel.root hr
    rcases hr with ⟨h0, _⟩ | ⟨b', o', cap', F, hcv', hcap, hmax, hs1, hc, himm, ho⟩
    · omega
    obtain ⟨rfl, rfl, hcc⟩ := header_inj hcv'
    obtain ⟨x', hx', hrx⟩ := hc i k hi hk
    have : x' = x := Option.some.inj (hx'.symm.trans hx)
    subst this
    exact ⟨hi, hk, b, o, cap, x', rfl, by rw [cell?_same (w := w) (hw b hb)]; exact hx, At.same hrx ha fun c hc => hw c (((ho rfl).2.2.2 c).2 (.inr ⟨i, k, hi, hk, hc⟩))⟩
  | _ :: _, .nd _ false _ _ _, _, _, _, _, _, h, _ => h.elim
  | _ :: _, .c _, _, _, _, _, _, h, _ => h.elim
  | _ :: _, .dead, _, _, _, _, _, h, _ => h.elim
  | _ :: _, .many .., _, _, _, _, _, h, _ => h.elim
  | _ :: _, .rs .., _, _, _, _, _, h, _ => h.elim
  | _ :: _, .rp .., _, _, _, _, _, h, _ => h.elim

end Go.Ve
