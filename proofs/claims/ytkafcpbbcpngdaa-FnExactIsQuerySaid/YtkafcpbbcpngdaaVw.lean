/- Regions that draw their order: the theorem's end. -/
import Derived.Test.YtkafcpbbcpngdaaVv
namespace Go.Ve
open RowKit (Below)

theorem Below.drew (w : World) : Below w.heap.size w { w with drawn := w.drawn + 1 } :=
  ⟨rfl, rfl, rfl, Nat.le_refl _, fun _ _ => rfl⟩

theorem put_big {a : Act} {d : Nat} {v : Value} (h : a.tmps.size ≤ d) : a.put (some d) v = a := by
  have : a.tmps.setIfInBounds d v = a.tmps := Array.setIfInBounds_eq_of_size_le h
  unfold Act.put
  simp only [this]

section
variable {P : Program} {C : Ctx} {h : Hint} {ops : Array Oper} {σ : List V} {ρ : Nat → Value} {F : Nat → Nat → Prop} {t0 r : Nat → V} {n : Nat}

theorem pt_set (hq : QOK ops n) {listed : Array Bool} (hl : listed.size = ops.size) {i d : Nat} (hi : i < n) (hd : dstOf ops i = some d) :
    pt ops n r t0 (listed.setIfInBounds i true) = upd1 (pt ops n r t0 listed) d (r i) := by
  funext x
  unfold upd1
  by_cases hx : x = d
  · subst hx
    unfold pt
    rw [owner_of hq hi hd]
    have : i < listed.size := by rw [hl]; exact Nat.lt_of_lt_of_le hi hq.le
    simp [this]
  · simp only [if_neg hx]
    unfold pt
    cases ho : owner ops n x with
    | none => rfl
    | some k =>
      have hne : i ≠ k := by
        rintro rfl
        have := (owner_some ho).2
        rw [hd] at this
        exact hx (Option.some.inj this).symm
      simp only
      rw [getD_set_ne false hne]

theorem agree (hq : QOK ops n) {listed : Array Bool} {i : Nat} {oi : Oper} (hoi : ops[i]? = some oi) (hi : i < n) (hr : i ∈ Region.ready .any ops listed) {x : Nat} (hx : x ∈ oi.looksAt ops) :
    runT ops r t0 i x = pt ops n r t0 listed x := by
  rw [runT_get hq r t0 x i (Nat.le_of_lt hi)]
  unfold pt
  cases ho : owner ops n x with
  | none => rfl
  | some k =>
    obtain ⟨hk, hdk⟩ := owner_some ho
    obtain ⟨oi', d, hoi', hd, hnl⟩ := hq.dst i hi
    obtain rfl : oi' = oi := Option.some.inj (hoi'.symm.trans hoi)
    have hne : k ≠ i := by
      rintro rfl
      have : d = x := by simpa [dstOf, hoi, hd] using hdk
      exact hnl (this ▸ hx)
    obtain ⟨e, he, hb, hon⟩ := (hq.ne k i x oi' hk hi hne hdk hoi).2 hx
    obtain ⟨_, o2, ho2, hall⟩ := mem_ready.1 hr
    obtain rfl : o2 = oi' := Option.some.inj (ho2.symm.trans hoi)
    have h1 := hall e he hb
    rw [hon] at h1
    have h2 := hq.back i o2 e hoi he hb
    rw [hon] at h2
    simp only [h1, h2, if_true]

theorem PR.skip {T : Nat → Nat → Prop} {D : Nat → Prop} {a : Act} {w : World} {N : Nat} {t : Nat → V} (hp : PR C N σ ρ F t a w D T) (d : Nat) (v : Value) :
    ∃ T', PR C N σ ρ F (upd1 t d .dead) (a.put (some d) v) w D T' ∧ ∀ x b, T' x b → T x b := by
  by_cases hdn : d < N
  · exact ⟨_, hp.put (r := .dead) (v' := v) (fp := noF) (Below.refl _ _) (fun _ h => h) (fun _ h => h.elim) (fun _ h => h) (fun _ h => .inl h) (fun b hb => ⟨hp.wr.Dlt b hb, fun h => h⟩) hdn, fun x b hb => by split at hb; exact hb.elim; exact hb⟩
  · have e1 : upd1 t d .dead = t := by
      funext x
      unfold upd1
      split
      · rename_i hx; subst hx; exact (hp.dd x (Nat.le_of_not_lt hdn)).symm
      · rfl
    rw [e1, put_big (by rw [hp.sz]; exact Nat.le_of_not_lt hdn)]
    exact ⟨T, hp, fun _ _ h => h⟩

theorem head_step {Q : Exit → Act → World → Prop} {K : Act → World → Prop} (hq : QOK ops n) {listed : Array Bool} (hl : listed.size = ops.size) {i : Nat} (hi : i < n) (hr : i ∈ Region.ready .any ops listed)
    (hst : ∀ j, j < n → ∀ o, ops[j]? = some o → StepQ P h ops σ o (runT ops r t0 j) (r j)) {D : Nat → Prop} {T : Nat → Nat → Prop} {a : Act} {w : World}
    (hp : PR C h.n σ ρ F (pt ops n r t0 listed) a w D T) (hT : ∀ x b, T x b → ∃ i, i < n ∧ dstOf ops i = some x)
    (hK : ∀ a' w' D' T', PR C h.n σ ρ F (pt ops n r t0 (listed.setIfInBounds i true)) a' w' D' T' → (∀ x b, T' x b → ∃ i, i < n ∧ dstOf ops i = some x) → K a' w') : wpOp P ops Q i K a w := by
  obtain ⟨oi, d, hoi, hd, hnl⟩ := hq.dst i hi
  have hdo : dstOf ops i = some d := by simp [dstOf, hoi, hd]
  rw [pt_set hq hl hi hdo] at hK
  have hT' : ∀ (fp : Nat → Prop) x b, (if x = d then fp else T x) b → ∃ i, i < n ∧ dstOf ops i = some x := by
    intro fp x b hb
    split at hb
    · rename_i hx; subst hx; exact ⟨i, hi, hdo⟩
    · exact hT x b hb
  have hgv : ∀ j want, oi.guard = some (j, want) → gv (pt ops n r t0 listed) ops j = gv (runT ops r t0 i) ops j := by
    intro j want hg
    unfold gv
    split
    · rename_i x hx
      refine (agree hq hoi hi hr ?_).symm
      unfold Oper.looksAt
      rw [hg]
      simp [hx]
    · rfl
  unfold wpOp
  simp only [hoi]
  obtain ⟨d', hd', hs⟩ := hst i hi oi hoi
  obtain rfl : d' = d := Option.some.inj (hd'.symm.trans hd)
  rcases hs with ⟨hdn, hg, r', hqop, hri⟩ | ⟨j, want, hg, hgj, hri⟩
  · have hw : Region.wanted oi (yielded ops a.tmps) = true := by
      rcases hg with hg | ⟨j, want, hg, hgj⟩
      · simp [Region.wanted, hg]
      · rw [← hgv j want hg] at hgj
        simp [Region.wanted, hg, hp.gv hgj]
    rw [if_pos hw]
    refine .inl ?_
    have hqop' : qop P σ (Ms.ev ⟨pt ops n r t0 listed, σ⟩) oi.op (fun x => x = r') := by
      refine qop_congr (fun x hx => ?_) hqop
      cases x with
      | tmp y =>
        show runT ops r t0 i y = pt ops n r t0 listed y
        refine agree hq hoi hi hr ?_
        unfold Oper.looksAt
        refine List.mem_append_left _ ?_
        rw [List.mem_filterMap]
        exact ⟨.tmp y, by simpa using hx, rfl⟩
      | const v => rfl
      | global g => rfl
      | func f => rfl
    obtain ⟨r2, rfl, hy⟩ := qop_sound (o := oi) hp.wr (fun x _ => hp.ev x) hqop'
    refine hy K Q fun v' w' D' fp hB hr' hf hd1 hd2 hd3 => ?_
    rw [hd]
    rw [hri] at hK
    split at hK
    · refine hK _ _ _ _ (hp.put (D' := fun b => D' b ∨ fp b) (fp := noF) hB (Rel.frz _ _ _ hr') (fun _ h => h.elim) (fun b hb => .inl (hd1 b hb)) (fun b hb => ?_) (fun b hb => ⟨?_, fun h => h⟩) hdn) (hT' _)
      · rcases hb with hb | hb
        · exact hd2 b hb
        · exact .inr (hf b hb)
      · rcases hb with hb | hb
        · exact (hd3 b hb).1
        · exact Rel.lt _ _ _ hr' b hb
    · exact hK _ _ _ _ (hp.put hB hr' hf hd1 hd2 hd3 hdn) (hT' _)
  · have hgj' := hgj
    rw [← hgv j want hg] at hgj'
    have hw : Region.wanted oi (yielded ops a.tmps) = false := by
      have := hp.gv hgj'
      cases want <;> simp [Region.wanted, hg, this]
    rw [if_neg (by simp [hw]), hd]
    rw [hri] at hK
    obtain ⟨T', hp', hsub⟩ := hp.skip d' undef
    exact hK _ _ _ _ hp' fun x b hb => hT x b (hsub x b hb)

/-- The tail, one behind the other. -/
theorem tail_go {Q : Exit → Act → World → Prop} (hq : QOK ops n) : ∀ (fuel m : Nat) (listed : Array Bool) (a : Act) (w : World), n ≤ m → m ≤ ops.size → ops.size ≤ m + fuel → listed.size = ops.size →
    (∀ j, j < ops.size → listed.getD j true = decide (j < m)) → wpList P ops Q (ops.toList.drop m) a w → wpAny P .any ops Q fuel listed a w := by
  have fals : ∀ {listed : Array Bool} {j m : Nat}, listed.size = ops.size → (∀ j, j < ops.size → listed.getD j true = decide (j < m)) → j < ops.size → listed.getD j false = decide (j < m) := by
    intro listed j m hs hl hj
    have := hl j hj
    rw [← hs] at hj
    simp [hj] at this ⊢
    exact this
  intro fuel
  induction fuel with
  | zero =>
    intro m listed a w hnm hm hf hs hl hw
    obtain rfl : m = ops.size := by omega
    refine ⟨?_, ?_⟩
    · cases hr : Region.ready .any ops listed with
      | nil => rfl
      | cons j js =>
        have hj : j ∈ Region.ready .any ops listed := by rw [hr]; simp
        obtain ⟨h1, o, ho, _⟩ := mem_ready.1 hj
        have hlt : j < ops.size := (Array.getElem?_eq_some_iff.1 ho).1
        rw [hl j hlt] at h1
        simp [hlt] at h1
    · have : ops.toList.drop ops.size = [] := by simp
      rw [this] at hw; exact hw
  | succ f ih =>
    intro m listed a w hnm hm hf hs hl hw
    by_cases hms : m = ops.size
    · subst hms
      have hnil : Region.ready .any ops listed = [] := by
        cases hr : Region.ready .any ops listed with
        | nil => rfl
        | cons j js =>
          have hj : j ∈ Region.ready .any ops listed := by rw [hr]; simp
          obtain ⟨h1, o, ho, _⟩ := mem_ready.1 hj
          have hlt : j < ops.size := (Array.getElem?_eq_some_iff.1 ho).1
          rw [hl j hlt] at h1
          simp [hlt] at h1
      refine ⟨fun _ => ?_, fun i hi => by rw [hnil] at hi; cases hi⟩
      have : ops.toList.drop ops.size = [] := by simp
      rw [this] at hw; exact hw
    · have hlt : m < ops.size := by omega
      have hom : ops[m]? = some ops[m] := by simp [hlt]
      have hmr : m ∈ Region.ready .any ops listed := by
        refine mem_ready.2 ⟨by rw [hl m hlt]; simp, ops[m], hom, fun e he hb => ?_⟩
        have h1 := hq.back m ops[m] e hom he hb
        rw [fals hs hl (by omega)]
        simp [h1]
      refine ⟨fun h0 => (by rw [h0] at hmr; cases hmr), fun i hi => ?_⟩
      have him : i = m := by
        obtain ⟨h1, o, ho, hall⟩ := mem_ready.1 hi
        have hil : i < ops.size := (Array.getElem?_eq_some_iff.1 ho).1
        rw [hl i hil] at h1
        simp at h1
        by_cases he : i = m
        · exact he
        · rcases hq.tail with ht | ⟨_, hc⟩
          · omega
          · have h2 := List.all_eq_true.1 hc i (List.mem_range.2 hil)
            simp only [Bool.or_eq_true, decide_eq_true_eq] at h2
            rcases h2 with h2 | h2
            · omega
            · obtain ⟨o', ho', e, he', hb, hon⟩ := Region.waitsFor_spec h2
              obtain rfl : o' = o := Option.some.inj (ho'.symm.trans ho)
              have h3 := hall e he' hb
              rw [hon, fals hs hl (by omega)] at h3
              simp at h3
              omega
      subst him
      have hdrop : ops.toList.drop i = ops[i] :: ops.toList.drop (i + 1) := by
        have := List.drop_eq_getElem_cons (l := ops.toList) (i := i) (by simpa using hlt)
        simpa using this
      rw [hdrop] at hw
      have hw' : wpOp P ops Q i (wpList P ops Q (ops.toList.drop (i + 1))) a w := by
        unfold wpOp; simp only [hom]; exact hw
      refine wpOp_mono (fun a' w' h' => ih (i + 1) _ a' w' (by omega) (by omega) (by omega) (by simpa using hs) (fun j hj => ?_) h') hw'
      by_cases hij : i = j
      · subst hij
        have : i < listed.size := by rw [hs]; exact hlt
        simp [this]
      · rw [getD_set_ne true hij, hl j hj]
        have : (j < i) = (j < i + 1) := by
          apply propext
          constructor <;> intro _ <;> omega
        simp [this]

def unl (listed : Array Bool) (n : Nat) : Nat := (List.range n).countP fun i => !listed.getD i true

theorem unl_set {listed : Array Bool} {i : Nat} (hi : i < listed.size) (hu : listed.getD i true = false) : ∀ n, unl (listed.setIfInBounds i true) n + (if i < n then 1 else 0) = unl listed n := by
  intro n
  induction n with
  | zero => simp [unl]
  | succ n ih =>
    unfold unl at ih ⊢
    rw [List.range_succ, List.countP_append, List.countP_append]
    simp only [List.countP_singleton]
    by_cases hin : i = n
    · subst hin
      have e : (listed.setIfInBounds i true).getD i true = true := by simp [hi]
      simp only [Nat.lt_irrefl, if_false] at ih
      simp [e, hu] at ih ⊢
      exact ih
    · rw [getD_set_ne true hin]
      have : (i < n + 1) = (i < n) := by
        apply propext
        constructor <;> intro _ <;> omega
      simp only [this]
      omega

theorem unl_pos {listed : Array Bool} {i : Nat} (hu : listed.getD i true = false) : ∀ n, i < n → 0 < unl listed n := by
  intro n hn
  unfold unl
  rw [List.countP_pos_iff]
  exact ⟨i, List.mem_range.2 hn, by simp [hu]⟩

theorem head_go {Q : Exit → Act → World → Prop} (hq : QOK ops n)
    (hst : ∀ j, j < n → ∀ o, ops[j]? = some o → StepQ P h ops σ o (runT ops r t0 j) (r j))
    (hend : ∀ a w D T, PR C h.n σ ρ F (runT ops r t0 n) a w D T → (∀ x b, T x b → ∃ i, i < n ∧ dstOf ops i = some x) → wpList P ops Q (ops.toList.drop n) a w) :
    ∀ (fuel : Nat) (listed : Array Bool) (a : Act) (w : World) (D : Nat → Prop) (T : Nat → Nat → Prop), HeadInv .any ops n listed → unl listed n + (ops.size - n) ≤ fuel →
      PR C h.n σ ρ F (pt ops n r t0 listed) a w D T → (∀ x b, T x b → ∃ i, i < n ∧ dstOf ops i = some x) → wpAny P .any ops Q fuel listed a w := by
  intro fuel
  induction fuel with
  | zero =>
    intro listed a w D T inv hf hp hT
    have hle := hq.le
    have hall : ∀ i, i < n → listed.getD i true = true := by
      intro i hi
      cases hu : listed.getD i true with
      | true => rfl
      | false => have := unl_pos hu n hi; omega
    have hpt : pt ops n r t0 listed = runT ops r t0 n := by
      funext x
      rw [runT_get hq r t0 x n (Nat.le_refl _)]
      unfold pt
      cases ho : owner ops n x with
      | none => rfl
      | some k =>
        have hk := (owner_some ho).1
        have h1 := hall k hk
        have h2 : k < listed.size := by rw [inv.size]; omega
        simp [h2] at h1 ⊢
        simp [h1, hk]
    rw [hpt] at hp
    refine tail_go hq 0 n listed a w (Nat.le_refl _) hle (by omega) inv.size (fun j hj => ?_) (hend _ _ _ _ hp hT)
    by_cases hjn : j < n
    · rw [hall j hjn]; simp [hjn]
    · rw [inv.tail j (by omega) hj]; simp [hjn]
  | succ f ih =>
    intro listed a w D T inv hf hp hT
    have hle := hq.le
    by_cases hall : ∀ i, i < n → listed.getD i true = true
    · have hpt : pt ops n r t0 listed = runT ops r t0 n := by
        funext x
        rw [runT_get hq r t0 x n (Nat.le_refl _)]
        unfold pt
        cases ho : owner ops n x with
        | none => rfl
        | some k =>
          have hk := (owner_some ho).1
          have h1 := hall k hk
          have h2 : k < listed.size := by rw [inv.size]; omega
          simp [h2] at h1 ⊢
          simp [h1, hk]
      rw [hpt] at hp
      refine tail_go hq (f + 1) n listed a w (Nat.le_refl _) hle (by omega) inv.size (fun j hj => ?_) (hend _ _ _ _ hp hT)
      by_cases hjn : j < n
      · rw [hall j hjn]; simp [hjn]
      · rw [inv.tail j (by omega) hj]; simp [hjn]
    · have hex : ∃ i, i < n ∧ listed.getD i true = false := by
        apply Classical.byContradiction
        intro hno
        apply hall
        intro i hi
        cases hu : listed.getD i true with
        | true => rfl
        | false => exact absurd ⟨i, hi, hu⟩ hno
      obtain ⟨i, ⟨hin, hun⟩, hmin⟩ := least hex
      have hoi : ops[i]? = some ops[i] := by
        have : i < ops.size := by omega
        simp [this]
      have hir : i ∈ Region.ready .any ops listed := by
        refine mem_ready.2 ⟨hun, ops[i], hoi, fun e he hb => ?_⟩
        have h1 := hq.back i ops[i] e hoi he hb
        have h2 := hmin e.on h1
        have h3 : e.on < listed.size := by rw [inv.size]; omega
        cases hu : listed.getD e.on true with
        | false => exact absurd ⟨by omega, hu⟩ h2
        | true => simp [h3] at hu ⊢; exact hu
      refine ⟨fun h0 => (by rw [h0] at hir; cases hir), fun j hj => ?_⟩
      have hjs : j < ops.size := by
        obtain ⟨_, o, ho, _⟩ := mem_ready.1 hj
        exact (Array.getElem?_eq_some_iff.1 ho).1
      have hjn : j < n := by
        rcases Nat.lt_or_ge j n with h1 | h1
        · exact h1
        · rcases hq.tail with ht | ⟨hs, hc⟩
          · omega
          · exact absurd hj (tail_waits hs hc (by omega) inv _ i rfl hin hun j h1)
      have hju := (mem_ready.1 hj).1
      have hcount := unl_set (by rw [inv.size]; exact hjs) hju n
      rw [if_pos hjn] at hcount
      exact head_step hq inv.size hjn hj hst hp hT fun a' w' D' T' hp' hT' => ih _ a' w' D' T' (inv.set hj hjn) (by omega) hp' hT'

/-- A slot's own parts get their numbers. -/
theorem PR.prom {N : Nat} {t : Nat → V} {a : Act} {w : World} {D : Nat → Prop} {T : Nat → Nat → Prop} (hp : PR C N σ ρ F t a w D T) {d : Nat} (hdn : d < N) :
    ∃ ρ' F', PR C N (σ ++ (Go.Ve.prom (t d) σ.length).2) ρ' F' (upd1 t d (Go.Ve.prom (t d) σ.length).1) a w D (fun x => if x = d then noF else T x) := by
  obtain ⟨ρ', F', ok, hr'⟩ := prom_sound (t d) σ ρ F _ (T d) hp.wr (hp.tm d hdn) (hp.tD d) (fun i b hb => hp.tF i d b hb)
  refine ⟨ρ', F', hp.df, hp.sz, fun x hx => ?_, ok.wr, fun x hx => ?_, fun x b hb => ?_, fun i x b hb hT => ?_, fun x y b hxy h1 h2 => ?_, fun x b hb => ?_, hp.fr, fun i b hb => ?_, hp.D1, hp.D2,
    fun i hi => (ok.rt i (Nat.lt_of_lt_of_le hi hp.ml)).trans (hp.rt i hi), by have := hp.ml; simp; omega, fun x b hx hb => ?_⟩
  · have : ¬ x = d := by omega
    simp only [upd1, this, if_false]; exact hp.dd x hx
  · by_cases hxd : x = d
    · subst hxd; simp only [upd1, if_true]; exact hr'
    · simp only [upd1, hxd, if_false]
      exact Rel.mono (fun _ h => h) (fun v cv hv => RefOK.ext ok.rt _ _ hv) _ _ _ (fun _ _ => rfl) (hp.tm x hx)
  · split at hb
    · exact hb.elim
    · exact hp.tD x b hb
  · split at hT
    · exact hT
    · rename_i hxd
      by_cases hi : i < σ.length
      · rw [ok.old i hi] at hb; exact hp.tF i x b hb hT
      · exact hp.tT d x b (Ne.symm hxd) (ok.new i b (Nat.le_of_not_lt hi) hb) hT
  · split at h1
    · exact h1
    · split at h2
      · exact h2
      · exact hp.tT x y b hxy h1 h2
  · split at hb
    · exact hb.elim
    · exact hp.tn x b hb
  · by_cases hi : i < σ.length
    · rw [ok.old i hi] at hb; exact hp.Fn i b hb
    · exact .inr (hp.tn d b (ok.new i b (Nat.le_of_not_lt hi) hb))
  · split at hb
    · exact hb
    · exact hp.tx x b hx hb

end

theorem PR.close {C : Ctx} {N : Nat} {a : Act} {w : World} {D : Nat → Prop} : ∀ (ds : List (Option Nat)) (t : Nat → V) (σ : List V) (ρ : Nat → Value) (F : Nat → Nat → Prop) (T : Nat → Nat → Prop), PR C N σ ρ F t a w D T →
    (∀ x b, T x b → some x ∈ ds) → SRel C N (promA ds ⟨t, σ⟩) a w := by
  intro ds
  induction ds with
  | nil =>
    intro t σ ρ F T hp ho
    refine ⟨hp.df, hp.dd, D, ρ, F, hp.wr, by simpa using hp.sz, fun x hx => ?_, hp.fr, hp.Fn, hp.D1, hp.D2, hp.rt, hp.ml⟩
    have hx' : x < N := by simpa using hx
    have h1 := hp.tm x hx'
    have e : T x = noF := noF_eq (fun b hb => by cases ho x b hb)
    rw [e] at h1
    show Rel D w _ (((List.range N).map t).getD x .dead) _ noF
    rw [range_getD hx']
    exact h1
  | cons d ds ih =>
    intro t σ ρ F T hp ho
    cases d with
    | none =>
      refine ih t σ ρ F T hp fun x b h => ?_
      have := ho x b h
      simpa using this
    | some d =>
      unfold promA
      split
      · rename_i hown
        have hdn : d < N := by
          rcases Nat.lt_or_ge d N with h | h
          · exact h
          · simp only [hp.dd d h] at hown; cases hown
        obtain ⟨ρ', F', hp'⟩ := hp.prom hdn
        refine ih _ _ ρ' F' _ hp' fun x b h => ?_
        split at h
        · exact h.elim
        · rename_i hxd
          have := ho x b h
          simpa [hxd] using this
      · rename_i hown
        refine ih t σ ρ F T hp fun x b h => ?_
        have := ho x b h
        rcases List.mem_cons.1 this with he | he
        · cases he
          by_cases hx : d < N
          · exact absurd h (tOwn_free _ _ _ (by simpa using hown) (hp.tm d hx) b)
          · exact absurd h (hp.tx d b (Nat.le_of_not_lt hx))
        · exact he

/-- Behind the head: its trees get their numbers, then the tail. -/
def drawK (P : Program) (h : Hint) (ops : Array Oper) (n : Nat) (K : Ms → Prop) (σ : List V) (t : Nat → V) : Prop :=
  vops P h ops (ops.toList.drop n) K (promA ((ops.toList.take n).map (·.dst)) ⟨t, σ⟩)
/-- A region that draws its order. -/
theorem vdraw {P : Program} {h : Hint} {id : Nat} {ops : Array Oper} {K : Ms → Prop} {S : Ms} (n : Nat) (hm : P.follows .mixedOrders = true) (hok : quietOK ops n = true)
    (hv : vq P h ops S.σ (ops.toList.take n) (drawK P h ops n K S.σ) S.t) : Drawn P h id ops K S := by
  intro C Q a w hQ hs
  have hq := quietOK_spec hok
  refine wp_region_any hm ?_
  obtain ⟨hdf, hdd, D, ρ, F, hcr⟩ := hs
  obtain ⟨r, hst, hK⟩ := vq_trace (n := n) (t0 := S.t) (K := drawK P h ops n K S.σ) hq.le hq n 0 (fun _ => .dead) (by omega) (by simpa [runT] using hv) (fun j hj => by omega)
  have hcr' := hcr.below (Below.drew w)
  have inv0 : HeadInv .any ops n (Array.replicate ops.size false) :=
    ⟨by simp, fun j oj _ hl => (by rw [getD_replicate_false] at hl; cases hl), fun t _ ht => getD_in (by simpa using ht) (getD_replicate_false _ _)⟩
  have hsz : a.tmps.size = h.n := by simpa using hcr.sz
  have hp0 : ∃ D ρ F T, PR C h.n S.σ ρ F (pt ops n r S.t (Array.replicate ops.size false)) a { w with drawn := w.drawn + 1 } D T ∧ ∀ x b, T x b → ∃ i, i < n ∧ dstOf ops i = some x := by
    obtain ⟨D, ρ, F, hcr'⟩ : CRel C S.σ ((List.range h.n).map S.t) a.tmps { w with drawn := w.drawn + 1 } := hcr'
    refine ⟨D, ρ, F, fun _ => noF, ⟨hdf, hsz, fun x hx => ?_, hcr'.wr, fun x hx => ?_, fun _ _ h => h.elim, fun _ _ _ _ h => h, fun _ _ _ _ h => h.elim, fun _ _ h => h.elim, hcr'.fr, hcr'.Fn, hcr'.D1, hcr'.D2, hcr'.rt, hcr'.ml, fun _ _ _ h => h⟩, fun _ _ h => h.elim⟩
    · unfold pt
      split
      · rw [getD_replicate_false]; rfl
      · exact hdd x hx
    · unfold pt
      split
      · rw [getD_replicate_false]; exact fun _ h => h
      · have h1 := hcr'.tm x (by simpa using hx)
        rw [range_getD hx] at h1
        exact h1
  obtain ⟨D, ρ, F, T, hp, hT0⟩ := hp0
  refine head_go hq hst ?_ ops.size _ a _ D T inv0 ?_ hp hT0
  · intro a w D T hp hT
    refine vops_sound hQ _ _ a w hK (PR.close _ _ _ _ _ _ hp fun x b ho => ?_)
    obtain ⟨i, hi, hd⟩ := hT x b ho
    obtain ⟨oi, d, hoi, hd', _⟩ := hq.dst i hi
    refine List.mem_map.2 ⟨oi, ?_, by simpa [dstOf, hoi] using hd⟩
    refine List.mem_of_getElem? (i := i) ?_
    rw [List.getElem?_take, if_pos hi, Array.getElem?_toList]
    exact hoi
  · have : unl (Array.replicate ops.size false) n ≤ n := by
      unfold unl
      have := List.countP_le_length (p := fun i => !(Array.replicate ops.size false).getD i true) (l := List.range n)
      simpa using this
    have := hq.le
    omega

end Go.Ve
