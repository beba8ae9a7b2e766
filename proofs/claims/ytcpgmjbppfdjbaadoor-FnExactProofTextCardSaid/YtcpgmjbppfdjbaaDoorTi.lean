/- The typed machine: stores. -/
import Derived.Test.YtcpgmjbppfdjbaaDoorTh
namespace Go.Ve
variable{r r':Aa}{c:Cl}{i k:Nat}
def UJ:(t:Ty)->Nat->t.T->Nat->Cl->Option t.T
 | .pair a b,d,x,k,c=>bif Nat.blt k a.w then(match UJ a d x.1 k c with
   |some y=>some (y,x.2)
   |none=>none)else(match UJ b d x.2 (k-a.w) c with
   |some y=>some (x.1,y)
   |none=>none)
 | .unit,_,_,_,_=>none
 | .int n,d,_,k,c=>bif Nat.beq k 0 then DO (.int n) d c else none
 | .bool,d,_,k,c=>bif Nat.beq k 0 then DO .bool d c else none
 | .str,d,_,k,c=>bif Nat.beq k 0 then DO .str d c else none
 | .sl t,d,_,k,c=>bif Nat.beq k 0 then DO (.sl t) d c else none
 | .ptr t,d,_,k,c=>bif Nat.beq k 0 then DO (.ptr t) d c else none
 | .clo g t,d,_,k,c=>bif Nat.beq k 0 then DO (.clo g t) d c else none
 | .osl t,d,_,k,c=>bif Nat.beq k 0 then DO (.osl t) d c else none
theorem setT_v: ∀ (t:Ty) (d:Nat) (x:t.T) (k:Nat) (c:Cl) (y:t.T),UJ t d x k c=some y->k<t.w/\Sub c.v0 ((tyV t d y).getD k .dead)/\∀j,j≠k->(tyV t d y).getD j .dead=(tyV t d x).getD j .dead:=by
 have leaf: ∀ (t:Ty) (d:Nat) (x:t.T) (k:Nat) (c:Cl) (y:t.T),t.one=true->(bif Nat.beq k 0 then DO t d c else none)=some y->k<t.w/\Sub c.v0 ((tyV t d y).getD k .dead)/\∀j,j≠k->(tyV t d y).getD j .dead=(tyV t d x).getD j .dead:=by
  intro t d x k c y ho h;obtain⟨hb,h⟩:=A1 h;have hk:=bqE hb;subst hk;obtain⟨h1,h2⟩:=LM h [];rw [Bv ho,Bv ho];refine⟨(by cases t<;>first|exact Nat.one_pos|cases ho),(by rw [<-h2];exact h1),λj hj=>?_⟩
  cases j with
  |zero=>exact absurd rfl hj
  |succ j=>rfl
 intro t
 induction t with
 |pair a b iha ihb=>
  intro d x k c y h;unfold UJ at h;cases hb:Nat.blt k a.w with
  |true=>
   rw [hb]at h;have hb:k<a.w:=blE hb;simp only [cond_true]at h;split at h
   case h_2=>cases h
   rename_i y1 h1;cases h;obtain⟨g1,g2,g3⟩:=iha _ _ _ _ _ h1;refine⟨by show k<a.w+b.w;omega,?_,λj hj=>?_⟩
   ·show Sub _ ((tyV a d y1++tyV b d x.2).getD k .dead)
    rw [gDE,gAL (by rw [Aq];exact hb),<-gDE]
    exact g2
   ·show(tyV a d y1++tyV b d x.2).getD j .dead=(tyV a d x.1++tyV b d x.2).getD j .dead
    by_cases hja:j<a.w
    ·have:=g3 j hj
     simp only [gDE]at this⊢;rw [gAL (by rw [Aq];exact hja),gAL (by rw [Aq];exact hja)]
     exact this
    ·simp only [gDE]
     rw [gAR (by rw [Aq];omega),gAR (by rw [Aq];omega),Aq,Aq]
  |false=>
   rw [hb]at h;have hb:a.w<=k:=by
    rcases Nat.lt_or_ge k a.w with h'|h'
    ·rw [show Nat.blt k a.w=true from Nat.ble_eq_true_of_le h']at hb;cases hb
    ·exact h'
   simp only [cond_false]at h;split at h
   case h_2=>cases h
   rename_i y1 h1;cases h;obtain⟨g1,g2,g3⟩:=ihb _ _ _ _ _ h1;refine⟨by show k<a.w+b.w;omega,?_,λj hj=>?_⟩
   ·show Sub _ ((tyV a d x.1++tyV b d y1).getD k .dead)
    rw [gDE,gAR (by rw [Aq];exact hb),<-gDE,Aq]
    exact g2
   ·show(tyV a d x.1++tyV b d y1).getD j .dead=(tyV a d x.1++tyV b d x.2).getD j .dead
    by_cases hja:j<a.w
    ·simp only [gDE]
     rw [gAL (by rw [Aq];exact hja),gAL (by rw [Aq];exact hja)]
    ·have:=g3 (j-a.w) (by omega)
     simp only [gDE]at this⊢;rw [gAR (by rw [Aq];omega),gAR (by rw [Aq];omega),Aq]
     exact this
 |unit=>intro d x k c y h;cases h
 |osl t _=>intro d x k c y h;exact leaf (.osl t) d x k c y rfl h
 |_=>intro d x k c y h;exact leaf _ d x k c y rfl h
def Aa.setCell:Aa->Nat->Nat->Cl->Option Aa
 | .obj ro l,i,k,c=>bif ro then none else match i with
  |0=>bif Nat.blt k l.length then some (.obj ro (l.set k c))else none
  |_+1=>none
 | .arr ro t d xs,i,k,c=>bif ro then none else match UJ t d (Aaj xs i t.dflt) k c with
  |some x=>some (.arr ro t d (setX xs i x))
  |none=>none
 | .dead,_,_,_=>none
 | .opt _ _ _ _,_,_,_=>none
def Aa.cl:Aa->Option Cl
 | .arr _ t d xs=>some (.c (.sl t) (d+1) xs)
 |_=>none
def Aa.setAt:Aa->AR->Nat->Nat->Cl->Option Aa
 |r,[],i,k,c=>r.setCell i k c
 |r,(i0,k0)::p,i,k,c=>match(((r.cells i0).getD k0 .dead).node r.ro).setAt p i k c with
  |some n=>match n.cl with
   |some c'=>r.setCell i0 k0 c'
   |none=>none
  |none=>none
theorem MR(h:r.setCell i k c=some r'){X:V}(hX:Sub X c.v0): ∃s sz n f,r.v= .nd s true sz n f/\Sub (.nd s true sz n λi' k'=>if i'=i/\k'=k then X else f i' k') r'.v:=by
 cases r with
 |dead=>cases h
 |opt=>cases h
 |obj ro l=>
  have h:(bif ro then none else match i with
   |0=>bif Nat.blt k l.length then some (Aa.obj ro (l.set k c))else none
   |_+1=>none)=some r':=h
  cases hro:ro with
  |true=>rw [hro]at h;cases h
  |false=>
   rw [hro]at h;simp only [cond_false]at h;split at h
   case h_2=>cases h
   obtain⟨hb,h⟩:=A1 h;have hb:k<l.length:=blE hb;cases h;refine⟨_,_,_,_,rfl,?_⟩;show Sub _ (A7 true ((l.set k c).map Cl.v0));unfold A7;rw [List.length_map,List.length_map,List.length_set];refine⟨_,rfl,λi' k' hi hk=>?_⟩
   obtain rfl:i'=0:=by omega
   show Sub _ (((l.set k c).map Cl.v0).getD k' .dead)
   dsimp only
   rw [Ay (f:=Cl.v0) (a:=.dead) rfl];by_cases hkk:k'=k
   ·subst hkk
    rw [if_pos ⟨rfl,rfl⟩];simp only [gDE,List.getElem?_set_self hb,Option.getD_some];exact hX
   ·rw [if_neg (λh=>hkk h.2)]
    refine Sub.of_eq ?_;show(l.map Cl.v0).getD k' .dead=_;rw [Ay (f:=Cl.v0) (a:=.dead) rfl];simp only [gDE,List.getElem?_set_ne (Ne.symm hkk)]
 |arr ro t d xs=>
  have h:(bif ro then none else match UJ t d (Aaj xs i t.dflt) k c with
   |some x=>some (Aa.arr ro t d (setX xs i x))
   |none=>none)=some r':=h
  cases hro:ro with
  |true=>rw [hro]at h;cases h
  |false=>
   rw [hro]at h;simp only [cond_false]at h;split at h
   case h_2=>cases h
   rename_i x hx;cases h;obtain⟨g1,g2,g3⟩:=setT_v _ _ _ _ _ _ hx;refine⟨_,_,_,_,rfl,?_⟩;show Sub _ (arr true t.w (tyV t d) t.dflt (xs.set i x));unfold arr;rw [List.length_set];refine⟨_,rfl,λi' k' hi hk=>?_⟩
   show Sub _ ((tyV t d ((xs.set i x).getD i' t.dflt)).getD k' .dead)
   dsimp only
   by_cases hii:i'=i
   ·subst hii
    have e:(xs.set i' x).getD i' t.dflt=x:=by simp [hi]
    rw [e];by_cases hkk:k'=k
    ·subst hkk
     rw [if_pos ⟨rfl,rfl⟩];exact hX.trans g2
    ·rw [if_neg (λh=>hkk h.2),g3 k' hkk]
     exact Sub.refl _
   ·rw [if_neg (λh=>hii h.1)]
    have e:(xs.set i x).getD i' t.dflt=xs.getD i' t.dflt:=by simp only [gDE,List.getElem?_set_ne (Ne.symm hii)]
    rw [e];exact Sub.refl _
theorem cl_v{n:Aa}(h:n.cl=some c):c.v0=n.v/\c.node n.ro=n:=by
 unfold Aa.cl at h;split at h
 ·cases h;trivial
 grind
theorem Lz{p:AR}(h:r.setAt p i k c=some r'):r≠.dead:=by
 rintro rfl
 cases p with
 |nil=>cases h
 |cons a p=>
  unfold Aa.setAt at h;split at h
  ·split at h<;>cases h
  grind
theorem D7{i k:Nat}{c:Cl}{X:V}(hX:Sub X c.v0): ∀ (p:AR) (r r':Aa),r.setAt p i k c=some r'->Sub (upd (p++ [(i,k)]) r.v X) r'.v
 | [],r,r',h=>by
  obtain⟨s,sz,n,f,hv,hs⟩:=MR h hX;rw [hv];exact hs
 |(i0,k0)::p,r,r',h=>by
  unfold Aa.setAt at h;split at h
  case h_2=>cases h
  rename_i n hn;split at h
  case h_2=>cases h
  rename_i c' hc;have ih:=D7 hX p _ _ hn;have hne:=Lz hn;obtain⟨h1,_⟩:=cl_v hc;obtain⟨s,sz,m,f,hv,hs⟩:=MR h (h1▸ih);have hr:r.live=true:=by cases r<;>first|rfl|cases h
  obtain⟨s2,sz2,m2,f2,hv2,hf2,_⟩:=O4 r hr;rw [hv]at hv2;obtain⟨rfl,rfl,rfl,rfl⟩:=hv2;rw [hv];show Sub (V.nd s true sz m λi' k'=>if i'=i0/\k'=k0 then upd (p++ [(i,k)]) (f i0 k0) X else f i' k') r'.v
  rw [hf2 i0 k0,YT hne]
  grind
theorem Jd(p:AR)(r r':Aa)(h:r.setAt p i k c=some r'):Sub (upd (p++ [(i,k)]) r.v c.v0) r'.v:=D7 (Sub.refl _) p r r' h
theorem QQ: ∀ (t:Ty) (d:Nat) (x:t.T) (k:Nat) (c:Cl) (y:t.T),UJ t d x k c=some y->∀j,j≠k->(Am t d y).getD j .dead=(Am t d x).getD j .dead:=by
 have leaf: ∀ (t:Ty) (d:Nat) (x:t.T) (k:Nat) (c:Cl) (y:t.T),t.one=true->(bif Nat.beq k 0 then DO t d c else none)=some y->∀j,j≠k->(Am t d y).getD j .dead=(Am t d x).getD j .dead:=by
  intro t d x k c y ho h j hj;cases hb:Nat.beq k 0 with
  |false=>rw [hb]at h;cases h
  |true=>
   have hk:=bqE hb;subst hk;cases j with
   |zero=>exact absurd rfl hj
   |succ j=>cases t<;>first|rfl|cases ho
 have len: ∀ (t:Ty) (d:Nat) (x:t.T),(Am t d x).length=t.w:=by
  intro t d x;have:=congrArg List.length (Bu t d x);rw [List.length_map,Aq]at this;exact this
 intro t
 induction t with
 |pair a b iha ihb=>
  intro d x k c y h j hj;unfold UJ at h;cases hb:Nat.blt k a.w with
  |true=>
   rw [hb]at h;simp only [cond_true]at h;split at h
   case h_2=>cases h
   rename_i y1 h1;cases h;show(Am a d y1++Am b d x.2).getD j .dead=(Am a d x.1++Am b d x.2).getD j .dead;by_cases hja:j<a.w
   ·have:=iha _ _ _ _ _ h1 j hj
    simp only [gDE]at this⊢;rw [gAL (by rw [len];exact hja),gAL (by rw [len];exact hja)]
    exact this
   ·simp only [gDE]
    rw [gAR (by rw [len];omega),gAR (by rw [len];omega),len,len]
  |false=>
   rw [hb]at h;have hb:a.w<=k:=by
    rcases Nat.lt_or_ge k a.w with h'|h'
    ·rw [show Nat.blt k a.w=true from Nat.ble_eq_true_of_le h']at hb;cases hb
    ·exact h'
   simp only [cond_false]at h;split at h
   case h_2=>cases h
   rename_i y1 h1;cases h;show(Am a d x.1++Am b d y1).getD j .dead=(Am a d x.1++Am b d x.2).getD j .dead;by_cases hja:j<a.w
   ·simp only [gDE]
    rw [gAL (by rw [len];exact hja),gAL (by rw [len];exact hja)]
   ·have:=ihb _ _ _ _ _ h1 (j-a.w) (by omega)
    simp only [gDE]at this⊢;rw [gAR (by rw [len];omega),gAR (by rw [len];omega),len]
    exact this
 |unit=>intro d x k c y h;cases h
 |osl t _=>intro d x k c y h;exact leaf (.osl t) d x k c y rfl h
 |_=>intro d x k c y h;exact leaf _ d x k c y rfl h
theorem D6(h:r.setCell i k c=some r'):r'.len=r.len/\r'.ro=r.ro/\∀i1 k1,(i1≠i\/k1≠k)->(r'.cells i1).getD k1 .dead=(r.cells i1).getD k1 .dead:=by
 cases r with
 |dead=>cases h
 |opt=>cases h
 |obj ro l=>
  have h:(bif ro then none else match i with
   |0=>bif Nat.blt k l.length then some (Aa.obj ro (l.set k c))else none
   |_+1=>none)=some r':=h
  cases hro:ro with
  |true=>rw [hro]at h;cases h
  |false=>
   rw [hro]at h;simp only [cond_false]at h;split at h
   case h_2=>cases h
   obtain⟨hb,h⟩:=A1 h;cases h;refine⟨rfl,rfl,λi1 k1 hn=>?_⟩
   cases i1 with
   |succ i1=>rfl
   |zero=>
    have hk:k1≠k:=by rcases hn with h|h;exact absurd rfl h;exact h
    show(l.set k c).getD k1 .dead=l.getD k1 .dead;simp only [gDE,List.getElem?_set_ne (Ne.symm hk)]
 |arr ro t d xs=>
  have h:(bif ro then none else match UJ t d (Aaj xs i t.dflt) k c with
   |some x=>some (Aa.arr ro t d (setX xs i x))
   |none=>none)=some r':=h
  cases hro:ro with
  |true=>rw [hro]at h;cases h
  |false=>
   rw [hro]at h;simp only [cond_false]at h;split at h
   case h_2=>cases h
   rename_i x hx;cases h;refine⟨by show(xs.set i x).length=xs.length;simp,rfl,λi1 k1 hn=>?_⟩
   show(Am t d ((xs.set i x).getD i1 t.dflt)).getD k1 .dead=(Am t d (xs.getD i1 t.dflt)).getD k1 .dead;by_cases hii:i1=i
   ·subst hii
    have hk:k1≠k:=by rcases hn with h|h;exact absurd rfl h;exact h
    by_cases hlt:i1<xs.length
    ·have e:(xs.set i1 x).getD i1 t.dflt=x:=by simp [hlt]
     rw [e];exact QQ _ _ _ _ _ _ hx k1 hk
    ·rw [List.set_eq_of_length_le (by omega)]
   grind
theorem MT{t0:Ty}{d0:Nat}{ys:List t0.T}(h:r.setCell i k (.c (.sl t0) (d0+1) ys)=some r'):(r'.cells i).getD k .dead= .c (.sl t0) (d0+1) ys\/r'=r:=by
 have key: ∀ (t:Ty) (d:Nat) (x:t.T) (k:Nat) (y:t.T),UJ t d x k (.c (.sl t0) (d0+1) ys)=some y->(Am t d y).getD k .dead= .c (.sl t0) (d0+1) ys:=by
  have leaf: ∀ (t:Ty) (d:Nat) (x:t.T) (k:Nat) (y:t.T),t.one=true->(bif Nat.beq k 0 then DO t d (.c (.sl t0) (d0+1) ys)else none)=some y->(Am t d y).getD k .dead= .c (.sl t0) (d0+1) ys:=by
   intro t d x k y ho h;cases hb:Nat.beq k 0 with
   |false=>rw [hb]at h;cases h
   |true=>
    rw [hb]at h;have hk:=bqE hb;subst hk;simp only [cond_true]at h;unfold DO at h;simp only at h;split at h
    case isFalse=>cases h
    rename_i ht;subst ht;obtain⟨hd,h⟩:=A1 h;cases h;unfold dOK at hd;have hd:d0+1=d:=bqE (by simpa [Ty.dep]using hd)
    subst hd;rfl
  have len: ∀ (t:Ty) (d:Nat) (x:t.T),(Am t d x).length=t.w:=by
   intro t d x;have:=congrArg List.length (Bu t d x);rw [List.length_map,Aq]at this;exact this
  intro t
  induction t with
  |pair a b iha ihb=>
   intro d x k y h;unfold UJ at h;cases hb:Nat.blt k a.w with
   |true=>
    rw [hb]at h;have hb:k<a.w:=blE hb;simp only [cond_true]at h;split at h
    case h_2=>cases h
    rename_i y1 h1;cases h;show(Am a d y1++Am b d x.2).getD k .dead=_;rw [gDE,gAL (by rw [len];exact hb),<-gDE]
    exact iha _ _ _ _ h1
   |false=>
    rw [hb]at h;have hb:a.w<=k:=by
     rcases Nat.lt_or_ge k a.w with h'|h'
     ·rw [show Nat.blt k a.w=true from Nat.ble_eq_true_of_le h']at hb;cases hb
     ·exact h'
    simp only [cond_false]at h;split at h
    case h_2=>cases h
    rename_i y1 h1;cases h;show(Am a d x.1++Am b d y1).getD k .dead=_;rw [gDE,gAR (by rw [len];exact hb),<-gDE,len]
    exact ihb _ _ _ _ h1
  |unit=>intro d x k y h;cases h
  |osl t _=>intro d x k y h;exact leaf (.osl t) d x k y rfl h
  |_=>intro d x k y h;exact leaf _ d x k y rfl h
 cases r with
 |dead=>cases h
 |opt=>cases h
 |obj ro l=>
  have h:(bif ro then none else match i with
   |0=>bif Nat.blt k l.length then some (Aa.obj ro (l.set k (.c (.sl t0) (d0+1) ys)))else none
   |_+1=>none)=some r':=h
  cases hro:ro with
  |true=>rw [hro]at h;cases h
  |false=>
   rw [hro]at h;simp only [cond_false]at h;split at h
   case h_2=>cases h
   obtain⟨hb,h⟩:=A1 h;have hb:k<l.length:=blE hb;cases h;left;show(l.set k _).getD k .dead=_;simp only [gDE,List.getElem?_set_self hb,Option.getD_some]
 |arr ro t d xs=>
  have h:(bif ro then none else match UJ t d (xs.getD i t.dflt) k (.c (.sl t0) (d0+1) ys)with
   |some x=>some (Aa.arr ro t d (xs.set i x))
   |none=>none)=some r':=h
  cases hro:ro with
  |true=>rw [hro]at h;cases h
  |false=>
   rw [hro]at h;simp only [cond_false]at h;split at h
   case h_2=>cases h
   rename_i x hx;cases h;by_cases hlt:i<xs.length
   ·left
    show(Am t d ((xs.set i x).getD i t.dflt)).getD k .dead=_;have e:(xs.set i x).getD i t.dflt=x:=by simp [hlt]
    rw [e];exact key _ _ _ _ _ hx
   ·right
    rw [List.set_eq_of_length_le (by omega)]
def pre:List Nat->AR->Bool
 | [],_=>true
 |k::ks,(_,l)::q=>Nat.beq k l&&pre ks q
 |_::_,[]=>false
theorem KB: ∀ {P q:AR},AW P q=true->pre (P.map (·.2)) q=true
 | [],_,_=>rfl
 |(i,k)::P,(j,l)::q,h=>by
  simp [AW,beq_iff_eq]at h;obtain⟨⟨_,rfl⟩,h⟩:=h;simp [pre,KB h]
 |_::_,[],h=>by cases h
theorem OS{a b:Bool}{t:Ty}{d:Nat}{x:Option (List t.T)}:(Aa.opt a t d x).len=(Aa.opt b t d x).len:=by cases x<;>rfl
theorem JA{i k:Nat}{c:Cl}: ∀ (p:AR) (r r':Aa),r.setAt p i k c=some r'->∀q:AR,pre ((p++ [(i,k)]).map (·.2)) q=false->(r'.at' q).len=(r.at' q).len
 | [],r,r',h,q,hq=>by
  obtain⟨h1,h2,h3⟩:=D6 h;cases q with
  |nil=>exact h1
  |cons a q=>
   obtain⟨i1,k1⟩:=a;have hk:k1≠k:=by
    rintro rfl
    simp [pre]at hq
   show((((r'.cells i1).getD k1 .dead).node r'.ro).at' q).len=((((r.cells i1).getD k1 .dead).node r.ro).at' q).len;rw [h3 i1 k1 (.inr hk),h2]
 |(i0,k0)::p,r,r',h,q,hq=>by
  unfold Aa.setAt at h;split at h
  case h_2=>cases h
  rename_i n hn;split at h
  case h_2=>cases h
  rename_i c' hc;obtain⟨h1,h2,h3⟩:=D6 h;cases q with
  |nil=>exact h1
  |cons a q=>
   obtain⟨i1,k1⟩:=a;by_cases hik:i1=i0/\k1=k0
   ·obtain⟨rfl,rfl⟩:=hik
    have hq':pre ((p++ [(i,k)]).map (·.2)) q=false:=by simpa [pre]using hq
    have ih:=JA p _ _ hn q hq';show((((r'.cells i1).getD k1 .dead).node r'.ro).at' q).len=((((r.cells i1).getD k1 .dead).node r.ro).at' q).len;unfold Aa.cl at hc;split at hc
    case h_2=>cases hc
    rename_i ro t0 d0 ys;cases hc;rcases MT h with e|e
    ·rw [e,<-ih]
     -- the read-only mark does not matter
     have roix: ∀ (q:AR) (t:Ty) (d:Nat) (xs:List t.T) (a b:Bool),((Aa.arr a t d xs).at' q).len=((Aa.arr b t d xs).at' q).len:=by
      have gen: ∀ (q:AR) (r1 r2:Aa),r1.len=r2.len->(∀i,r1.cells i=r2.cells i)->(r1.at' q).len=(r2.at' q).len:=by
       intro q
       induction q with
       |nil=>intro r1 r2 h _;exact h
       |cons a q ih=>
        intro r1 r2 _ h;obtain⟨i,k⟩:=a;show((((r1.cells i).getD k .dead).node r1.ro).at' q).len=((((r2.cells i).getD k .dead).node r2.ro).at' q).len;rw [h i];refine ih _ _ ?_ ?_
        ·unfold Cl.node;split<;>first|rfl|exact OS
        ·intro i';unfold Cl.node;split<;>first|rfl|(cases i'<;>rfl)
      intro q t d xs a b;exact gen q _ _ rfl λ_=>rfl
     exact roix q t0 d0 ys _ _
    ·rw [e]
   ·have:i1≠i0\/k1≠k0:=by
     by_cases h:i1=i0
     ·right;intro h';exact hik ⟨h,h'⟩
     ·left;exact h
    show((((r'.cells i1).getD k1 .dead).node r'.ro).at' q).len=((((r.cells i1).getD k1 .dead).node r.ro).at' q).len;rw [h3 i1 k1 this,h2]
end Go.Ve

