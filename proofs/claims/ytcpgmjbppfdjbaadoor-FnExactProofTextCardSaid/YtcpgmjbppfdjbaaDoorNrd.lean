/- slices.Clone of no elements, nil or not. -/
import Derived.Test.YtcpgmjbppfdjbaaDoorNrc
import Derived.WalkKit
namespace Go.Ve
open Go Go.Proofs Go.RowKit
variable{P:Program}
theorem FT_or{f:FuncId}{S:Sig}{g1 g:(PT S.ps).T->Option (RT S.rs).T}(h1:FT P f S g1)(h2: ∀x y,g x=some y->g1 x=some y\/FC P f (Cf S.ps x) (VD S.rs y)):FT P f S g:=
 λx y h=>(h2 x y h).elim (h1 x y) id
theorem WB{t e:TypeId}(hu:P.underlying t=some (.slice e))(a:Option Addr)(n c:Nat)(w:World):(binOp .eql t (.slice a n c) (.slice none 0 0)).run P w= .ok (.bool a.isNone) w:=by
 have he:(Op.equal t (.slice a n c) (.slice none 0 0)).run P w= .ok a.isNone w:=by
  unfold Op.equal;rw [show Op.maxDepth=9999+1 from rfl]
  unfold Op.equalIn;cases a<;>simp [run_underlying hu]
 simp [binOp,he]
set_option maxRecDepth 100000 in
theorem WK(w:World)(a:Option Addr)(c:Nat):Calls Tryd.prog 27 #[.slice a 0 c] w λe w'=>(e= .returned (.slice none 0 0)/\w'=w)\/∃b T,e= .returned (.slice (some ⟨b,0,none⟩) 0 0)/\w.heap.size<=b/\w'.heap[b]? =some (.cells #[] T (0,0))/\Below w.heap.size w w':=by
 have hu:Tryd.prog.underlying 32=some (.slice 9):=by kernel_rfl
 have heq:=λa n c w=>WB hu a n c w
 cases a with
 |none=>
  have h1: ∀w,(binOp .eql 32 (.slice none 0 c) (.slice none 0 0)).run Tryd.prog w= .ok (.bool true) w:=λw=>heq none 0 c w
  clear heq
  go_enter Tryd.func27,Tryd.ntmps27
  go_wp2
  go_ret
  exact .inl ⟨rfl,rfl⟩
 |some a=>
  have h1: ∀w,(binOp .eql 32 (.slice (some a) 0 c) (.slice none 0 0)).run Tryd.prog w= .ok (.bool false) w:=λw=>heq (some a) 0 c w
  clear heq
  go_enter Tryd.func27,Tryd.ntmps27
  go_wp2
  go_ret
  exact .inr ⟨_,9,rfl,Nat.le_refl _,by show(w.heap.push _)[w.heap.size]? =_;simp,(Below.refl _ _).alloc (Nat.le_refl _) _⟩
theorem Yq(τ:Ty):FC Tryd.prog 27 [cV (.sl τ) 0 []] (cV (.sl τ) 1 []):=by
 intro w D cvs hk hD hsz hr;have h0:Rel D w noR (.nd true false τ.w 0 λi k=>(tyV τ 0 (([]:List τ.T).getD i τ.dflt)).getD k .dead) (cvs.getD 0 undef) noF:=hr 0 (by simp)
 obtain⟨a,c,hcv⟩:=h0.sliceLen;have hc:cvs= #[.slice a 0 c]:=by
  apply Array.ext
  ·simpa using hsz
  ·intro i h1 h2
   have:i=0:=by simp at h2;omega
   subst this;simp at hcv;simpa [h1]using hcv
 rw [hc];refine(WK w a c).mono λe w' h=>?_
 rcases h with⟨rfl,rfl⟩|⟨b,T,rfl,hb,hob,hB⟩
 ·exact⟨_,noF,D,rfl,Below.refl _ _,.inl ⟨rfl,rfl,.inl rfl,λ_ h=>h⟩,λ_ h=>h.elim,λ_ h=>h,λ_ h=>.inl h,λb h=>⟨hD b h,λh=>h⟩⟩
 ·have hlt:b<w'.heap.size:=(Array.getElem?_eq_some_iff.1 hob).1
  refine⟨_,λx=>x=b,D,rfl,hB,.inr ⟨b,0,0,λ_ _=>noF,rfl,Nat.le_refl _,Nat.zero_le _,(λh=>by cases h),λi k hi=>absurd hi (Nat.not_lt_zero _),(λh=>by cases h),λ_=>⟨⟨#[],T,BL.plain hob,by simp⟩,λi k hi=>absurd hi (Nat.not_lt_zero _),λi k i' k' x hi=>absurd hi (Nat.not_lt_zero _),λx=>⟨λh=>.inl h,λh=>h.elim id fun⟨i,_,hi,_⟩=>absurd hi (Nat.not_lt_zero _)⟩⟩⟩,?_,λ_ h=>h,λ_ h=>.inl h,λx hx=>⟨Nat.lt_of_lt_of_le (hD x hx) hB.size,λe=>?_⟩⟩
  ·rintro x rfl;exact hb
  ·have:=hD x hx
   have:x=b:=e;omega
end Go.Ve

