/- Moving a query along a functor: the law. -/
import Derived.Test.YtkafcpbbcpngdaaLv
namespace Go.Ve.D
open Go Go.Ve

theorem p113 {x : List (Int × Int)} (h : x.length ≤ 1048576) : G113 x = some x := by
  unfold G113
  split
  · rename_i h0
    rw [List.eq_nil_of_length_eq_zero h0]
  · rename_i h0
    unfold G113a
    rw [if_pos (by omega)]
    simp only [cond_false, List.length_nil, List.nil_append]
    rw [if_pos (by omega)]
theorem p86 {q : Qry} (h : okQ q) : G86 q = some q := by
  unfold G86
  simp only [p109 h.1, p113 h.2.1, p113 h.2.2.1, p109 h.2.2.2, Option.bind_some]
def thn (x g : List Int) : List Int := x.map fun y => g.getD y.toNat 0
theorem thn_len {x g : List Int} : (thn x g).length = x.length := by simp [thn]
theorem thn_get {x g : List Int} {i : Nat} (hi : i < x.length) : (thn x g).getD i 0 = g.getD (x.getD i 0).toNat 0 := by simp [thn, hi]
theorem p83 {x g : List Int} (hx : x.length ≤ 1048576) (hg : ∀ i, i < x.length → 0 ≤ x.getD i 0 ∧ x.getD i 0 < (g.length : Int)) : G83 (x, g) = some (thn x g) := by
  unfold G83
  refine bind_of (v := .brk 0 ((x.length : Int), thn x g)) (tloop_iter (st := fun i : Nat => ((i : Int), (thn x g).take i)) (n := x.length) (fun i hi => ?_) ?_ (fun y => by simp)) (by show (if 0 = 0 then _ else none) = _; rw [if_pos rfl])
  · have hl : ((thn x g).take i).length = i := by rw [List.length_take, thn_len]; omega
    simp only [lt_cast, hi, decide_true, cond_true, in_cast hi, and_self, if_true, Int.toNat_natCast, hg i hi, hl, List.length_cons, List.length_nil]
    rw [if_pos (by omega), wrap_sm (by omega) (by omega), ← take_snoc (x := thn x g) 0 (by rw [thn_len]; exact hi), thn_get hi]
    rfl
  · have : (thn x g).take x.length = thn x g := by rw [← thn_len (x := x) (g := g)]; exact List.take_length
    simp only [lt_cast, Nat.lt_irrefl, decide_false, cond_false, this]
theorem p87 {x g : List Int} (hx : x.length ≤ 1048576) (hg : ∀ i, i < x.length → 0 ≤ x.getD i 0 ∧ x.getD i 0 < (g.length : Int)) : G87 (x, g) = some (thn x g) := by
  unfold G87
  simp only [Int.toNat_natCast]
  rw [if_pos (by omega)]
  refine bind_of (v := .brk 0 ((x.length : Int), thn x g)) (tloop_iter (st := fun i : Nat => ((i : Int), (thn x g).take i ++ (List.replicate x.length (0 : Int)).drop i)) (n := x.length) (fun i hi => ?_) ?_ (fun y => by simp)) (by show (if 0 = 0 then _ else none) = _; rw [if_pos rfl])
  · have hl : ((thn x g).take i ++ (List.replicate x.length (0 : Int)).drop i).length = x.length := by rw [List.length_append, List.length_take, thn_len, List.length_drop, List.length_replicate]; omega
    simp only [lt_cast, hi, decide_true, cond_true, in_cast hi, and_self, if_true, Int.toNat_natCast, hg i hi, hl]
    rw [wrap_sm (by omega) (by omega), ← thn_get (g := g) hi, take_set 0 (by rw [thn_len, List.length_replicate]) (by rw [thn_len]; exact hi)]
    rfl
  · have e1 : (thn x g).take x.length = thn x g := by rw [← thn_len (x := x) (g := g)]; exact List.take_length
    have e2 : (List.replicate x.length (0 : Int)).drop x.length = [] := by simp
    simp only [lt_cast, Nat.lt_irrefl, decide_false, cond_false, e1, e2, List.append_nil]

/-! The terms. -/
def mvT (a : List Int) (t : Int × Int) : Int × Int := (t.1, a.getD t.2.toNat 0)
def mvTs (a : List Int) (x : List (Int × Int)) : List (Int × Int) := x.map (mvT a)
theorem mvTs_len {a : List Int} {x : List (Int × Int)} : (mvTs a x).length = x.length := by simp [mvTs]
theorem mvTs_get {a : List Int} {x : List (Int × Int)} {i : Nat} (hi : i < x.length) : (mvTs a x).getD i (0, 0) = mvT a (x.getD i (0, 0)) := by simp [mvTs, hi]
def mvQ (o a : List Int) (q : Qry) : Qry := (thn q.1 o, (mvTs a q.2.1, (mvTs a q.2.2.1, q.2.2.2)))
def zQ : Qry := ([], ([], ([], [])))
def mvR (c d : Cat) (o a : List Int) (q : Qry) : Qry × Int := bif (isCat c && (isCat d && funOK c d o a)) && qOK c q then (mvQ o a q, 0) else (zQ, 1)
structure QIn (c : Cat) (a o : List Int) (q : Qry) : Prop where
  vs : ∀ i, i < q.1.length → 0 ≤ q.1.getD i 0 ∧ q.1.getD i 0 < (o.length : Int)
  ll : q.2.2.1.length = q.2.1.length
  l : ∀ i, i < q.2.1.length → 0 ≤ (q.2.1.getD i (0, 0)).2 ∧ (q.2.1.getD i (0, 0)).2 < (a.length : Int)
  r : ∀ i, i < q.2.1.length → 0 ≤ (q.2.2.1.getD i (0, 0)).2 ∧ (q.2.2.1.getD i (0, 0)).2 < (a.length : Int)
theorem qin {c d : Cat} {o a : List Int} {q : Qry} (F : Fit c d o a) (h : qOK c q = true) : QIn c a o q := by
  unfold qOK at h
  simp only [Bool.and_eq_true, decide_eq_true_eq] at h
  obtain ⟨hh, hc⟩ := h
  obtain ⟨_, h2, _, h4, _⟩ := hh
  have hal := F.al
  have hol := F.ol
  have hc' : ∀ i, i < q.2.1.length → condOK c q.1 (q.2.1.getD i (0, 0)) (q.2.2.1.getD i (0, 0)) = true := fun i hi => List.all_eq_true.1 hc i (List.mem_range.2 hi)
  have both : ∀ i, i < q.2.1.length → termOK c q.1 (q.2.1.getD i (0, 0)) = true ∧ termOK c q.1 (q.2.2.1.getD i (0, 0)) = true := fun i hi => by
    have := hc' i hi
    unfold condOK at this
    simp only [Bool.and_eq_true] at this
    exact ⟨this.1, this.2.1⟩
  refine ⟨fun i hi => ?_, h4, fun i hi => ?_, fun i hi => ?_⟩
  · have := wi_get h2 hi; omega
  · have := term_in (both i hi).1; omega
  · have := term_in (both i hi).2; omega
theorem mid_get {x : List (Int × Int)} {y : List (Int × Int)} {i : Nat} (hy : y.length = x.length) (hi : i < x.length) : (y.take i ++ x.drop i).getD i (0, 0) = x.getD i (0, 0) := by
  have hl : (y.take i).length = i := by rw [List.length_take]; omega
  simp only [List.getD_eq_getElem?_getD]
  rw [List.getElem?_append_right (by omega), hl, Nat.sub_self, List.getElem?_drop, Nat.add_zero]
theorem mid_len {x y : List (Int × Int)} {i : Nat} (hy : y.length = x.length) (hi : i ≤ x.length) : (y.take i ++ x.drop i).length = x.length := by
  rw [List.length_append, List.length_take, List.length_drop]; omega
theorem fun_fit {c d : Cat} {o a : List Int} (h : (isCat c && (isCat d && funOK c d o a)) = true) : Fit c d o a := by
  simp only [Bool.and_eq_true] at h
  obtain ⟨h1, h2, h3⟩ := h
  refine fit_of (cat_sh h1) (cat_sh h2) ?_
  by_cases g : fitHead c d o a
  · exact g
  · rw [fun_f g] at h3; cases h3
theorem p45 {c d : Cat} {o a : List Int} {q : Qry} (hc : okC c) (hd : okC d) (ho : o.length ≤ 1048576) (ha : a.length ≤ 1048576) (hq : okQ q) : G45 (mkF c d o a, q) = some (mvR c d o a q) := by
  have e84 := p84 hc hd ho ha
  unfold mkF at e84
  unfold G45 mkF mvR
  simp only [Prod.eta, e84, Option.bind_some]
  cases hf : isCat c && (isCat d && funOK c d o a) with
  | false => rfl
  | true =>
  have F := fun_fit hf
  simp only [Bool.not_true, cond_false, p85 F.sc hq, Option.bind_some, Bool.true_and]
  cases hqq : qOK c q with
  | false => rfl
  | true =>
  have I := qin F hqq
  have hL := I.ll
  obtain ⟨b1, b2, b3, b4⟩ := hq
  simp only [Bool.not_true, cond_false, cond_true, p86 ⟨b1, b2, b3, b4⟩, p87 b1 I.vs, Option.bind_some]
  refine bind_of (v := .brk 0 ((q.2.1.length : Int), ([], ([], ([], ([], (thn q.1 o, (mvTs a q.2.1, (mvTs a q.2.2.1, q.2.2.2))))))))) (tloop_iter (st := fun i : Nat => ((i : Int), ([], ([], ([], ([], (thn q.1 o, ((mvTs a q.2.1).take i ++ q.2.1.drop i, ((mvTs a q.2.2.1).take i ++ q.2.2.1.drop i, q.2.2.2))))))))) (n := q.2.1.length) (fun i hi => ?_) ?_ (fun y => by simp)) ?_
  · obtain ⟨l1, l2⟩ := I.l i hi
    obtain ⟨r1, r2⟩ := I.r i hi
    have hi' : i < q.2.2.1.length := by omega
    have e1 : ((mvTs a q.2.1).take i ++ q.2.1.drop i).length = q.2.1.length := mid_len mvTs_len (by omega)
    have e2 : ((mvTs a q.2.2.1).take i ++ q.2.2.1.drop i).length = q.2.2.1.length := mid_len mvTs_len (by omega)
    simp only [lt_cast, hi, decide_true, cond_true, in_cast hi, in_cast hi', l1, l2, r1, r2, and_self, if_true, Int.toNat_natCast, e1, e2, mid_get mvTs_len hi, mid_get mvTs_len hi']
    have f1 : ((q.2.1.getD i (0, 0)).1, a.getD (q.2.1.getD i (0, 0)).2.toNat 0) = (mvTs a q.2.1).getD i (0, 0) := (mvTs_get hi).symm
    have f2 : ((q.2.2.1.getD i (0, 0)).1, a.getD (q.2.2.1.getD i (0, 0)).2.toNat 0) = (mvTs a q.2.2.1).getD i (0, 0) := (mvTs_get hi').symm
    rw [f1, f2, take_set (0, 0) mvTs_len.symm (by rw [mvTs_len]; exact hi), take_set (0, 0) mvTs_len.symm (by rw [mvTs_len]; exact hi'), wrap_sm (by omega) (by omega)]
    rfl
  · have e1 : (mvTs a q.2.1).take q.2.1.length = mvTs a q.2.1 := by rw [← mvTs_len (a := a) (x := q.2.1)]; exact List.take_length
    have e2 : (mvTs a q.2.2.1).take q.2.1.length = mvTs a q.2.2.1 := by rw [← hL, ← mvTs_len (a := a) (x := q.2.2.1)]; exact List.take_length
    have e3 : q.2.2.1.drop q.2.1.length = [] := by rw [← hL]; exact List.drop_length
    simp only [lt_cast, Nat.lt_irrefl, decide_false, cond_false, e1, e2, e3, List.drop_length, List.append_nil]
  · show (if 0 = 0 then _ else none) = _
    rw [if_pos rfl]
    rfl
theorem p43 {c d : Cat} {o a : List Int} {q : Qry} (hc : okC c) (hd : okC d) (ho : o.length ≤ 1048576) (ha : a.length ≤ 1048576) (hq : okQ q) : G43 (mkF c d o a, q) = some (mvR c d o a q) := by
  have e82 := p82 hc hd ho ha
  unfold mkF at e82
  unfold G43 mkF mvR
  simp only [Prod.eta, e82, Option.bind_some]
  cases hf : isCat c && (isCat d && funOK c d o a) with
  | false => rfl
  | true =>
  have F := fun_fit hf
  have hcc : isCat c = true := by simp only [Bool.and_eq_true] at hf; exact hf.1
  simp only [Bool.not_true, cond_false, p13 hc hq, hcc, Option.bind_some, Bool.true_and]
  cases hqq : qOK c q with
  | false => rfl
  | true =>
  have I := qin F hqq
  have hL := I.ll
  obtain ⟨b1, b2, b3, b4⟩ := hq
  simp only [Bool.not_true, cond_false, cond_true, p83 b1 I.vs, p79 b4, Option.bind_some]
  refine bind_of (v := .brk 0 ((q.2.1.length : Int), ([], ([], ([], ([], (thn q.1 o, (mvTs a q.2.1, (mvTs a q.2.2.1, q.2.2.2))))))))) (tloop_iter (st := fun i : Nat => ((i : Int), ([], ([], ([], ([], (thn q.1 o, ((mvTs a q.2.1).take i, ((mvTs a q.2.2.1).take i, q.2.2.2))))))))) (n := q.2.1.length) (fun i hi => ?_) ?_ (fun y => by simp)) ?_
  · obtain ⟨l1, l2⟩ := I.l i hi
    obtain ⟨r1, r2⟩ := I.r i hi
    have hi' : i < q.2.2.1.length := by omega
    have e1 : ((mvTs a q.2.1).take i).length = i := by rw [List.length_take, mvTs_len]; omega
    have e2 : ((mvTs a q.2.2.1).take i).length = i := by rw [List.length_take, mvTs_len]; omega
    have k1 : 0 + i ≤ 8796093022208 := by omega
    have k2 : i + (0 + 1) ≤ 8796093022208 := by omega
    simp only [lt_cast, hi, decide_true, cond_true, in_cast hi, in_cast hi', l1, l2, r1, r2, and_self, if_true, Int.toNat_natCast, List.length_nil, List.nil_append, List.length_cons, e1, e2, k1, k2]
    have f1 : ((q.2.1.getD i (0, 0)).1, a.getD (q.2.1.getD i (0, 0)).2.toNat 0) = (mvTs a q.2.1).getD i (0, 0) := (mvTs_get hi).symm
    have f2 : ((q.2.2.1.getD i (0, 0)).1, a.getD (q.2.2.1.getD i (0, 0)).2.toNat 0) = (mvTs a q.2.2.1).getD i (0, 0) := (mvTs_get hi').symm
    rw [f1, f2, take_snoc (0, 0) (by rw [mvTs_len]; exact hi), take_snoc (0, 0) (by rw [mvTs_len]; exact hi'), wrap_sm (by omega) (by omega)]
    rfl
  · have e1 : (mvTs a q.2.1).take q.2.1.length = mvTs a q.2.1 := by rw [← mvTs_len (a := a) (x := q.2.1)]; exact List.take_length
    have e2 : (mvTs a q.2.2.1).take q.2.1.length = mvTs a q.2.2.1 := by rw [← hL, ← mvTs_len (a := a) (x := q.2.2.1)]; exact List.take_length
    simp only [lt_cast, Nat.lt_irrefl, decide_false, cond_false, e1, e2]
  · show (if 0 = 0 then _ else none) = _
    rw [if_pos rfl]
    rfl

/-! What is marked is held. -/
def mkT (x : List (Int × Int)) (k : Int) : List (Int × Int) := (List.range x.length).map fun (i : Nat) => (k + 2 * (i : Int), k + 2 * (i : Int) + 1)
theorem mkT_len {x : List (Int × Int)} {k : Int} : (mkT x k).length = x.length := by simp [mkT]
theorem mkT_get {x : List (Int × Int)} {k : Int} {i : Nat} (hi : i < x.length) : (mkT x k).getD i (0, 0) = (k + 2 * (i : Int), k + 2 * (i : Int) + 1) := by simp [mkT, hi]
theorem set_getD {x : List (Int × Int)} {i : Nat} {v : Int × Int} (hi : i < x.length) : (x.set i v).getD i (0, 0) = v := by simp [hi]
theorem p88 {x : List (Int × Int)} {k : Int} (h0 : 0 ≤ k) (h1 : k ≤ 1125899906842624) (h : x.length ≤ 1048576) : G88 (x, k) = some (k + 2 * (x.length : Int), mkT x k) := by
  unfold G88
  refine bind_of (v := .brk 0 (k + 2 * (x.length : Int), ((x.length : Int), mkT x k))) ?_ (by show (if 0 = 0 then _ else none) = _; rw [if_pos rfl])
  have key := tloop_iter (X := Int × Int × List (Int × Int)) (R := Int × List (Int × Int)) (st := fun i : Nat => (k + 2 * (i : Int), ((i : Int), (mkT x k).take i ++ x.drop i))) (n := x.length) (o := .brk 0 (k + 2 * (x.length : Int), ((x.length : Int), mkT x k)))
    (f := (fun (v0 : (Int × (Int × (List (Int × Int))))) => (bif (decide (v0.2.1 < ((v0.2.2.length : Nat) : Int))) then (if (((0 : Int) ≤ v0.2.1) ∧ (v0.2.1 < ((v0.2.2.length : Nat) : Int))) then (if (((0 : Int) ≤ v0.2.1) ∧ (v0.2.1 < (((v0.2.2.set (v0.2.1).toNat (v0.1, (v0.2.2.getD (v0.2.1).toNat ((0 : Int), (0 : Int))).2)).length : Nat) : Int))) then (some (LO.next ((IntKind.wrap .i64 ((IntKind.wrap .i64 (v0.1 + (1 : Int))) + (1 : Int))), ((IntKind.wrap .i64 (v0.2.1 + (1 : Int))), ((v0.2.2.set (v0.2.1).toNat (v0.1, (v0.2.2.getD (v0.2.1).toNat ((0 : Int), (0 : Int))).2)).set (v0.2.1).toNat (((v0.2.2.set (v0.2.1).toNat (v0.1, (v0.2.2.getD (v0.2.1).toNat ((0 : Int), (0 : Int))).2)).getD (v0.2.1).toNat ((0 : Int), (0 : Int))).1, (IntKind.wrap .i64 (v0.1 + (1 : Int))))))))) else none) else none) else (some (LO.brk 0 (v0.1, (v0.2.1, v0.2.2)))))))
    (fun i hi => ?_) ?_ (fun y => by simp)
  · simpa using key
  · have e1 : ((mkT x k).take i ++ x.drop i).length = x.length := mid_len mkT_len (by omega)
    simp only [List.length_set, e1, lt_cast, hi, decide_true, cond_true, in_cast hi, and_self, if_true, Int.toNat_natCast]
    rw [set_getD (by rw [e1]; exact hi), List.set_set, wrap_sm (n := k + 2 * (i : Int) + 1) (by omega) (by omega), wrap_sm (n := k + 2 * (i : Int) + 1 + 1) (by omega) (by omega), wrap_sm (n := (i : Int) + 1) (by omega) (by omega)]
    have f1 : (k + 2 * (i : Int), k + 2 * (i : Int) + 1) = (mkT x k).getD i (0, 0) := (mkT_get hi).symm
    simp only [f1]
    rw [take_set (0, 0) mkT_len.symm (by rw [mkT_len]; exact hi)]
    have f2 : k + 2 * (i : Int) + 1 + 1 = k + 2 * ((i + 1 : Nat) : Int) := by omega
    rw [f2]
    rfl
  · have e1 : (mkT x k).take x.length = mkT x k := by rw [← mkT_len (x := x) (k := k)]; exact List.take_length
    simp only [e1, List.drop_length, List.append_nil, mkT_len, lt_cast, Nat.lt_irrefl, decide_false, cond_false]
theorem p89 {x : List (Int × Int)} {k : Int} (h0 : 0 ≤ k) (h1 : k ≤ 1125899906842624) (h : x.length ≤ 1048576) : G89 (mkT x k, k) = some (k + 2 * (x.length : Int)) := by
  unfold G89
  simp only [mkT_len]
  refine bind_of (v := .brk 0 (k + 2 * (x.length : Int), (x.length : Int))) ?_ (by show (if 0 = 0 then _ else none) = _; rw [if_pos rfl])
  have key := tloop_iter (X := Int × Int) (R := Int) (st := fun i : Nat => (k + 2 * (i : Int), (i : Int))) (n := x.length) (o := .brk 0 (k + 2 * (x.length : Int), (x.length : Int)))
    (f := (fun (v0 : (Int × Int)) => (bif (decide (v0.2 < ((x.length : Nat) : Int))) then (if (((0 : Int) ≤ v0.2) ∧ (v0.2 < ((x.length : Nat) : Int))) then (bif (!decide (((mkT x k).getD (v0.2).toNat ((0 : Int), (0 : Int))).1 = v0.1)) then (retM (some (-(1 : Int)))) else (if (((0 : Int) ≤ v0.2) ∧ (v0.2 < ((x.length : Nat) : Int))) then (bif (!decide (((mkT x k).getD (v0.2).toNat ((0 : Int), (0 : Int))).2 = (IntKind.wrap .i64 (v0.1 + (1 : Int))))) then (retM (some (-(1 : Int)))) else (some (LO.next ((IntKind.wrap .i64 ((IntKind.wrap .i64 (v0.1 + (1 : Int))) + (1 : Int))), (IntKind.wrap .i64 (v0.2 + (1 : Int))))))) else none)) else none) else (some (LO.brk 0 (v0.1, v0.2))))))
    (fun i hi => ?_) ?_ (fun y => by simp)
  · simpa using key
  · simp only [lt_cast, hi, decide_true, cond_true, in_cast hi, and_self, if_true, Int.toNat_natCast, mkT_get hi]
    rw [wrap_sm (n := k + 2 * (i : Int) + 1) (by omega) (by omega), wrap_sm (n := k + 2 * (i : Int) + 1 + 1) (by omega) (by omega), wrap_sm (n := (i : Int) + 1) (by omega) (by omega)]
    have f2 : k + 2 * (i : Int) + 1 + 1 = k + 2 * ((i + 1 : Nat) : Int) := by omega
    rw [f2]
    simp only [decide_true, Bool.not_true, cond_false]
    rfl
  · simp only [lt_cast, Nat.lt_irrefl, decide_false, cond_false]
theorem mh88 {x : List (Int × Int)} {k : Int} (h0 : 0 ≤ k) (h1 : k ≤ 1125899906842624) (h : x.length ≤ 1048576) : ∃ k' y, G88 (x, k) = some (k', y) ∧ 0 ≤ k' ∧ k' ≤ k + 2199023255552 ∧ G89 (y, k) = some k' :=
  ⟨_, _, p88 h0 h1 h, by omega, by omega, p89 h0 h1 h⟩
theorem mh46 {q : Qry} {k : Int} (h0 : 0 ≤ k) (h1 : k ≤ 562949953421312) (h : okQ q) : ∃ k' y1 y2 y3 y4, G46 (q, k) = some (k', (y1, (y2, (y3, y4)))) ∧ 0 ≤ k' ∧ k' ≤ k + 8796093022208 ∧ G47 ((y1, (y2, (y3, y4))), k) = some k' := by
  obtain ⟨g1, g2, g3, g4⟩ := h
  obtain ⟨k1, y1, a1, b1, c1, d1⟩ := mh53 h0 (by omega) g1
  obtain ⟨k2, y2, a2, b2, c2, d2⟩ := mh88 b1 (by omega) g2
  obtain ⟨k3, y3, a3, b3, c3, d3⟩ := mh88 b2 (by omega) g3
  obtain ⟨k4, y4, a4, b4, c4, d4⟩ := mh53 b3 (by omega) g4
  refine ⟨k4, y1, y2, y3, y4, ?_, b4, by omega, ?_⟩
  · unfold G46
    simp only [a1, a2, a3, a4, Option.bind_some]
  · unfold G47
    have n1 : ¬ (k1 < 0) := by omega
    have n2 : ¬ (k2 < 0) := by omega
    have n3 : ¬ (k3 < 0) := by omega
    have n4 : ¬ (k4 < 0) := by omega
    simp only [d1, d2, d3, d4, Option.bind_some, n1, n2, n3, n4, decide_false, cond_false]
end Go.Ve.D

