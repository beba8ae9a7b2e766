/- The quiet operations of the small machine that look at memory: loads, addresses, slices of slices. -/
import Derived.Test.YtkafcpbbcpngdaaVc
import Derived.Laws.Slices
namespace Go.Ve
open RowKit (Below)
section ops
variable {P : Program} {o : Oper} {a : Act} {w : World} {σ : List V} {D : Nat → Prop} {ρ : Nat → Value} {F : Nat → Nat → Prop} {K : V → Prop}

/-- What a load finds at a cell of an owned node. -/
def toRef (id : Nat) (q : List (Nat × Nat)) : V → V
  | .nd true true _ n _ => .rs id q 0 n
  | .nd false true _ _ _ => .rp id q 0 0
  | v => v
def cellAt (σ : List V) (id : Nat) (p : List (Nat × Nat)) (i k : Nat) : V :=
  match sub p (σ.getD id .dead) with
  | .nd _ _ _ _ f => f i k
  | _ => .dead
def nodeSz (σ : List V) (id : Nat) (p : List (Nat × Nat)) : Nat :=
  match sub p (σ.getD id .dead) with
  | .nd _ _ sz _ _ => sz
  | _ => 0

/-- no struct and no bare reference lies in one cell of a tree -/
def cellOK : V → Bool
  | .many .. => false
  | .nd false true sz _ _ => 0 < sz
  | _ => true

theorem toRef_ok (wr : WRel σ w D ρ F) {id : Nat} {p : List (Nat × Nat)} {s : Bool} {sz n : Nat} {f : Nat → Nat → V} {b o' cap : Nat} (hid : id < σ.length)
    (ha : At w p (σ.getD id .dead) (ρ id) (.nd s true sz n f) (header s b o' n cap)) {i k : Nat} (hi : i < n) (hk : k < sz) (hc : cellOK (f i k) = true) :
    ∃ x, w.cell? ⟨b, o' + i * sz + k, none⟩ = some x ∧ Rel D w (RefOK σ ρ w) (toRef id (p ++ [(i, k)]) (f i k)) x noF := by
  obtain ⟨fp1, hr1, hsub, _⟩ := focus (w' := w) p _ _ _ _ _ (wr.rel id hid) (fun b hb h => wr.dD id b h hb) ha
  rcases hr1 with ⟨h0, _⟩ | ⟨b2, o2, cap2, F2, hcv, hcap, hmax, hs1, hcell, himm, ho⟩
  · omega
  obtain ⟨rfl, rfl, _⟩ := header_inj hcv
  obtain ⟨x, hx, hrx⟩ := hcell i k hi hk
  refine ⟨x, hx, ?_⟩
  have hat : At w (p ++ [(i, k)]) (σ.getD id .dead) (ρ id) (f i k) x := At.app ha ⟨hi, hk, b, o', cap, x, rfl, hx, rfl, rfl⟩
  generalize hv : f i k = v at *
  cases v with
  | c v => exact ⟨hrx.1, hrx.2.1, fun _ h => h⟩
  | dead => exact fun _ h => h
  | many t n f => cases hc
  | rs id p off len => exact hrx.1.elim
  | rp id p i k => exact hrx.1.elim
  | nd s' own sz' n' f' =>
    cases own with
    | false =>
      have he : F2 i k = noF := noF_eq (tOwn_free _ _ _ (by rfl) hrx)
      rw [he] at hrx
      cases s' <;> exact Rel.noR_mono hrx
    | true =>
      cases s' with
      | true =>
        refine ⟨⟨hid, sz', n', f', x, hat, by omega, ?_⟩, fun _ h => h⟩
        rcases hrx with ⟨rfl, _, hn0, _⟩ | ⟨b3, o3, cap3, F3, rfl, _⟩
        · have hn0 := nilO_true hn0
          subst hn0
          exact .inr ⟨rfl, none, rfl, fun _ _ => rfl⟩
        · exact .inl ⟨b3, o3, cap3, rfl, by simp [header]⟩
      | false =>
        rcases hrx with ⟨_, h, _⟩ | ⟨b3, o3, cap3, F3, rfl, _, _, h1, _⟩
        · cases h
        · refine ⟨⟨hid, false, sz', n', f', b3, o3, cap3, hat, by rw [h1 rfl]; exact Nat.one_pos, by simpa [cellOK] using hc, by simp [header]⟩, fun _ h => h⟩

/-- The cells that a loaded variable of 's' cells holds. -/
theorem load_agg {ad : Addr} {t : TypeId} {d : TypeDesc} {i : TypeInfo} {s : Nat} (hd : P.underlying t = some d) (hi : P.info? t = some i) (his : i.size = s) (hagg : isAggD d = true)
    (cs : List Value) (hl : cs.length = s) (hc : ∀ j v, cs[j]? = some v → w.cell? (ad.add j) = some v) : (loadVar t ad).run P w = .ok (.agg cs.toArray) w := by
  subst hl
  have h1 : (isAgg t).run P w = .ok true w := by
    unfold isAgg
    cases d <;> simp [isAggD] at hagg <;> simp [run_underlying hd]
  simp only [loadVar, Sem.run_bind, h1, Result.andThen, if_true, sizeOf, typeInfo, hi, his]
  simp [run_loadCells_list w ad cs hc, hi, ← his]
  rw [his, run_loadCells_list w ad cs hc]

theorem load_one {ad : Addr} {t : TypeId} {d : TypeDesc} (hd : P.underlying t = some d) (hagg : isAggD d = false)
    {v : Value} (hc : w.cell? ad = some v) : (loadVar t ad).run P w = .ok v w := by
  have h1 : (isAgg t).run P w = .ok false w := by
    unfold isAgg
    cases d <;> simp [isAggD] at hagg <;> simp [run_underlying hd]
  simp [loadVar, h1, hc]

theorem add_cell {ad : Addr} (hs : ad.spot = none) (j : Nat) : ad.add j = ⟨ad.block, ad.off + j, none⟩ := by
  unfold Addr.add
  split
  · rename_i h; subst h; cases ad; simp_all
  · rfl

/-- choose cells -/
theorem choose_cells {n : Nat} {p : Nat → Value → Prop} (h : ∀ k, k < n → ∃ x, p k x) : ∃ cs : List Value, cs.length = n ∧ ∀ k x, cs[k]? = some x → p k x := by
  induction n with
  | zero => exact ⟨[], rfl, fun k x h => by simp at h⟩
  | succ n ih =>
    obtain ⟨cs, hl, hc⟩ := ih fun k hk => h k (by omega)
    obtain ⟨x, hx⟩ := h n (by omega)
    refine ⟨cs ++ [x], by simp [hl], fun k y hy => ?_⟩
    by_cases hk : k < cs.length
    · rw [List.getElem?_append_left hk] at hy; exact hc k y hy
    · rw [List.getElem?_append_right (by omega)] at hy
      have : k = n := by
        have := List.getElem?_eq_some_iff.1 hy
        obtain ⟨h, _⟩ := this
        simp at h; omega
      subst this
      simp [hl] at hy
      exact hy ▸ hx

def qLoad (ti : Option TyI) (σ : List V) (x : V) (K : V → Prop) : Prop :=
  match ti with
  | some ⟨false, _, _⟩ => match x with
    | .nd false false sz _ f => 0 < sz ∧ K (f 0 0)
    | .rp id p i k => cellOK (cellAt σ id p i k) = true ∧ K (toRef id (p ++ [(i, k)]) (cellAt σ id p i k))
    | _ => False
  | some ⟨true, s, _⟩ => match x with
    | .nd false false sz _ f => s ≤ sz ∧ K (mkMany (tab s fun k => f 0 k))
    | .rp id p i k => k + s ≤ nodeSz σ id p ∧ (List.range s).all (fun j => cellOK (cellAt σ id p i (k + j))) = true ∧ K (mkMany (tab s fun j => toRef id (p ++ [(i, k + j)]) (cellAt σ id p i (k + j))))
    | _ => False
  | none => False

theorem imm_cells {R : V → Value → Prop} {s : Bool} {sz n : Nat} {f : Nat → Nat → V} {cv : Value} {fp : Nat → Prop} (h : Rel D w R (.nd s false sz n f) cv fp) (hn : 0 < n) :
    ∃ b o cap, cv = header s b o n cap ∧ n ≤ cap ∧ ∀ i k, i < n → k < sz → D b ∧ ∃ x, w.cell? ⟨b, o + i * sz + k, none⟩ = some x ∧ Rel D w noR (f i k) x noF := by
  rcases h with ⟨h0, _⟩ | ⟨b, o, cap, F, hcv, hcap, hmax, hs, hr, hi, _⟩
  · omega
  obtain ⟨h1, h2, h3⟩ := hi rfl
  refine ⟨b, o, cap, hcv, hcap, fun i k hi hk => ⟨h1 (Nat.mul_pos hn (by omega)), ?_⟩⟩
  obtain ⟨x, hx, hrx⟩ := hr i k hi hk
  exact ⟨x, hx, noF_eq (h2 i k · hi hk) ▸ hrx⟩

theorem imm_ptr {R : V → Value → Prop} {sz n : Nat} {f : Nat → Nat → V} {cv : Value} {fp : Nat → Prop} (h : Rel D w R (.nd false false sz n f) cv fp) :
    n = 1 ∧ ∃ b o, cv = .pointer (some ⟨b, o, none⟩) ∧ ∀ k, k < sz → D b ∧ ∃ x, w.cell? ⟨b, o + k, none⟩ = some x ∧ Rel D w noR (f 0 k) x noF := by
  have hn : n = 1 := by
    rcases h with ⟨_, h, _⟩ | ⟨b, o, cap, F, hcv, hcap, hmax, hs, hr, hi, _⟩
    · cases h
    · exact hs rfl
  subst hn
  obtain ⟨b, o, cap, hcv, _, hr⟩ := imm_cells h Nat.one_pos
  exact ⟨rfl, b, o, by simpa [header] using hcv, fun k hk => by simpa using hr 0 k Nat.one_pos hk⟩

theorem qLoad_run (wr : WRel σ w D ρ F) {t : TypeId} {v : V} {cv : Value} {fp : Nat → Prop} (hr : Rel D w (RefOK σ ρ w) v cv fp) (h : qLoad (tyI P t) σ v K) : ∃ r, K r ∧ ∃ ad cr, cv = .pointer (some ad) ∧ (loadVar t ad).run P w = .ok cr w ∧ Rel D w (RefOK σ ρ w) r cr noF := by
  unfold qLoad at h
  split at h
  · rename_i sz0 z0 hti
    obtain ⟨d, i, z, hd, hi, hz, his, _, _, _, hag⟩ := tyI_spec hti
    split at h
    · obtain ⟨hsz, hK⟩ := h
      obtain ⟨_, b, o', he, hc⟩ := imm_ptr hr
      obtain ⟨_, y, hy, hry⟩ := hc 0 hsz
      exact ⟨_, hK, _, _, he, load_one hd hag.symm (by simpa using hy), Rel.noR_mono hry⟩
    · rename_i id p i' k'
      obtain ⟨hc, hK⟩ := h
      obtain ⟨⟨hid, s, sz, n, f, b, o', cap, ha, hi', hk', he⟩, _⟩ := hr
      have hcell : cellAt σ id p i' k' = f i' k' := by unfold cellAt; rw [← At.sub ha]
      rw [hcell] at hK hc
      obtain ⟨y, hy, hry⟩ := toRef_ok wr hid ha hi' hk' hc
      exact ⟨_, hK, _, _, he, load_one hd hag.symm hy, hry⟩
    · exact h.elim
  · rename_i s z0 hti
    obtain ⟨d, i, z, hd, hi, hz, his, _, _, _, hag⟩ := tyI_spec hti
    split at h
    · obtain ⟨hsz, hK⟩ := h
      obtain ⟨_, b, o', he, hc⟩ := imm_ptr hr
      obtain ⟨cs, hl, hcs⟩ := choose_cells (n := s) (p := fun k x => w.cell? ⟨b, o' + k, none⟩ = some x ∧ Rel D w noR (_) x noF) fun k hk => (hc k (by omega)).2
      refine ⟨_, hK, _, _, he, load_agg hd hi his hag.symm cs hl fun j v hj => (by rw [add_cell rfl]; exact (hcs j v hj).1), Rel.eqv _ _ _ _ (tab_eqv _ _) ?_⟩
      refine ⟨cs.toArray, fun _ => noF, rfl, by simpa using hl, fun k hk => ?_, fun _ _ _ _ _ _ h => h.elim, fun b => ⟨fun h => h.elim, fun ⟨_, _, h⟩ => h⟩⟩
      have : cs[k]? = some (cs.toArray.getD k undef) := by simp [hl, hk]
      exact Rel.noR_mono (hcs k _ this).2
    · rename_i id p i' k'
      obtain ⟨hsz, hco, hK⟩ := h
      obtain ⟨⟨hid, s', sz, n, f, b, o', cap, ha, hi', hk', he⟩, _⟩ := hr
      have hcell : ∀ k, cellAt σ id p i' k = f i' k := by intro k; unfold cellAt; rw [← At.sub ha]
      have hns : nodeSz σ id p = sz := by unfold nodeSz; rw [← At.sub ha]
      rw [hns] at hsz
      simp only [hcell] at hK hco
      obtain ⟨cs, hl, hcs⟩ := choose_cells (n := s) fun j hj => toRef_ok wr hid ha hi' (show k' + j < sz by omega) (by simpa using List.all_eq_true.1 hco j (List.mem_range.2 hj))
      refine ⟨_, hK, _, _, he, load_agg hd hi his hag.symm cs hl fun j v hj => (by rw [add_cell rfl]; simpa [Nat.add_assoc] using (hcs j v hj).1), Rel.eqv _ _ _ _ (tab_eqv _ _) ?_⟩
      refine ⟨cs.toArray, fun _ => noF, rfl, by simpa using hl, fun k hk => ?_, fun _ _ _ _ _ _ h => h.elim, fun b => ⟨fun h => h.elim, fun ⟨_, _, h⟩ => h⟩⟩
      have : cs[k]? = some (cs.toArray.getD k undef) := by simp [hl, hk]
      exact (hcs k _ this).2
    · exact h.elim
  · exact h.elim

theorem qLoad_sound (wr : WRel σ w D ρ F) {t : TypeId} {v : V} {x : Operand} (ho : o.op = .load t x) (hv : OpR σ w D ρ F v (a.eval x)) (h : qLoad (tyI P t) σ v K) : ∃ r, K r ∧ Yields P o a w σ D ρ r := by
  obtain ⟨fp, hr, hfD, hfF⟩ := hv
  obtain ⟨r, hK, ad, cr, he, hl, hrr⟩ := qLoad_run wr hr h
  exact ⟨r, hK, Yields.pure wr (by unfold execOp; rw [ho]; simp [Instr.loadAt, he, Instr.sureAddr, hl]) hrr⟩

end ops
end Go.Ve
