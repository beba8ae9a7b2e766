/- The typed machine: stores. -/
import Derived.Test.YteakdlfnmhlifaaTh
open Nat(blt beq lt_or_ge)
set_option linter.all false
namespace Go.Ve
variable{r r':Ab}{c:Cl}{i k:Nat}
def WG:(t:Ty)->Nat->t.T->Nat->Cl->Option t.T
 |.pair a b,d,x,k,c=>bif blt k a.w then(match WG a d x.1 k c with
   |some y=>some (y,x.2)
   |none=>none)else(match WG b d x.2 (k-a.w) c with
   |some y=>some (x.1,y)
   |none=>none)
 |.unit,_,_,_,_=>none
 |.int n,d,_,k,c=>bif beq k 0 then DV (.int n) d c else none
 |.bool,d,_,k,c=>bif beq k 0 then DV .bool d c else none
 |.str,d,_,k,c=>bif beq k 0 then DV .str d c else none
 |.sl t,d,_,k,c=>bif beq k 0 then DV (.sl t) d c else none
 |.ptr t,d,_,k,c=>bif beq k 0 then DV (.ptr t) d c else none
 |.clo g t,d,_,k,c=>bif beq k 0 then DV (.clo g t) d c else none
 |.osl t,d,_,k,c=>bif beq k 0 then DV (.osl t) d c else none
 |.mp a b,d,_,k,c=>bif beq k 0 then DV (.mp a b) d c else none
def setT_v:∀(t:Ty) (d:Nat) (x:t.T) (k:Nat) (c:Cl) (y:t.T),WG t d x k c=some y->k<t.w/\Sub c.v0 ((tyV t d y).getD k .dead)/\∀j,j≠k->(tyV t d y).getD j .dead=(tyV t d x).getD j .dead:=by
 have e:∀(t:Ty) (d:Nat) (x:t.T) (k:Nat) (c:Cl) (y:t.T),t.one=true->(bif beq k 0 then DV t d c else none)=some y->k<t.w/\Sub c.v0 ((tyV t d y).getD k .dead)/\∀j,j≠k->(tyV t d y).getD j .dead=(tyV t d x).getD j .dead:=by
  intro t d x k c y J h;obtain⟨A,h⟩:=A1 h;have U:=bqE A;subst U;obtain⟨E,W⟩:=Kc h [];rw[Bh J,Bh J];refine⟨(by cases t<;>first|exact Nat.one_pos|cases J),(by rw[<-W];exact E),λj hj=>?_⟩
  cases j with
  |zero=>exact absurd rfl hj
  |succ j=>rfl
 intro t
 induction t with
 |pair a b H F=>
  intro d x k c y h;unfold WG at h;cases A:blt k a.w with
  |true=>
   rw[A]at h;have A:k<a.w:=blE A;simp only[cond_true]at h;split at h
   case h_2=>cases h
   rename_i B E;cases h;obtain⟨g1,g2,O⟩:=H _ _ _ _ _ E;refine⟨by show k<a.w+b.w;omega,?_,λj hj=>?_⟩
   .show Sub _ ((tyV a d B++tyV b d x.2).getD k .dead)
    rw[gDE,gAL (by rw[Av];exact A),<-gDE]
    exact g2
   .show(tyV a d B++tyV b d x.2).getD j .dead=(tyV a d x.1++tyV b d x.2).getD j .dead
    by_cases u:j<a.w
    .have:=O j hj
     simp only[gDE]at this⊢;rw[gAL (by rw[Av];exact u),gAL (by rw[Av];exact u)]
     exact this
    .simp only[gDE]
     rw[gAR (by rw[Av];omega),gAR (by rw[Av];omega),Av,Av]
  |false=>
   rw[A]at h;have A:a.w<=k:=by
    rcases lt_or_ge k a.w with h'|h'
    .rw[show blt k a.w=true from Nat.ble_eq_true_of_le h']at A;cases A
    .exact h'
   simp only[cond_false]at h;split at h
   case h_2=>cases h
   rename_i B E;cases h;obtain⟨g1,g2,O⟩:=F _ _ _ _ _ E;refine⟨by show k<a.w+b.w;omega,?_,λj hj=>?_⟩
   .show Sub _ ((tyV a d x.1++tyV b d B).getD k .dead)
    rw[gDE,gAR (by rw[Av];exact A),<-gDE,Av]
    exact g2
   .show(tyV a d x.1++tyV b d B).getD j .dead=(tyV a d x.1++tyV b d x.2).getD j .dead
    by_cases u:j<a.w
    .simp only[gDE]
     rw[gAL (by rw[Av];exact u),gAL (by rw[Av];exact u)]
    .have:=O (j-a.w) (by omega)
     simp only[gDE]at this⊢;rw[gAR (by rw[Av];omega),gAR (by rw[Av];omega),Av]
     exact this
 |unit=>intro d x k c y h;cases h
 |osl t _=>intro d x k c y h;exact e (.osl t) d x k c y rfl h
 |mp a b _ _=>intro d x k c y h;exact e (.mp a b) d x k c y rfl h
 |_=>intro d x k c y h;exact e _ d x k c y rfl h
def Ab.setCell:Ab->Nat->Nat->Cl->Option Ab
 |.obj ro l,i,k,c=>bif ro then none else match i with
  |0=>bif blt k l.length then some (.obj ro (l.set k c))else none
  |_+1=>none
 |.arr ro t d xs,i,k,c=>bif ro then none else match WG t d (AdR xs i t.dflt) k c with
  |some x=>some (.arr ro t d (setX xs i x))
  |none=>none
 |.dead,_,_,_=>none
 |.opt _ _ _ _,_,_,_=>none
 |.mp _ _ _ _,_,_,_=>none
def Ab.cl:Ab->Option Cl
 |.arr _ t d xs=>some (.c (.sl t) (d+1) xs)
 |_=>none
def Ab.setAt:Ab->AG->Nat->Nat->Cl->Option Ab
 |r,[],i,k,c=>r.setCell i k c
 |r,(i0,k0)::p,i,k,c=>match(((r.cells i0).getD k0 .dead).node r.ro).setAt p i k c with
  |some n=>match n.cl with
   |some c'=>r.setCell i0 k0 c'
   |none=>none
  |none=>none
def Oe(h:r.setCell i k c=some r'){X:V}(F:Sub X c.v0):∃s sz n f,r.v=.nd s true sz n f/\Sub (.nd s true sz n λi' k'=>if i'=i/\k'=k then X else f i' k') r'.v:=by
 cases r with
 |dead=>cases h
 |opt=>cases h
 |mp=>cases h
 |obj ro l=>
  have h:(bif ro then none else match i with
   |0=>bif blt k l.length then some (Ab.obj ro (l.set k c))else none
   |_+1=>none)=some r':=h
  cases A:ro with
  |true=>rw[A]at h;cases h
  |false=>
   rw[A]at h;simp only[cond_false]at h;split at h
   case h_2=>cases h
   obtain⟨E,h⟩:=A1 h;have E:k<l.length:=blE E;cases h;refine⟨_,_,_,_,rfl,?_⟩;show Sub _ (A8 true ((l.set k c).map Cl.v0));unfold A8;rw[List.length_map,List.length_map,List.length_set];refine⟨_,rfl,λi' k' hi J=>?_⟩
   obtain rfl:i'=0:=by omega
   show Sub _ (((l.set k c).map Cl.v0).getD k' .dead)
   dsimp only
   rw[Az (f:=Cl.v0) (a:=.dead) rfl];by_cases u:k'=k
   .subst u
    rw[if_pos ⟨rfl,rfl⟩];simp only[gDE,List.getElem?_set_self E,Option.getD_some];exact F
   .rw[if_neg (λh=>u h.2)]
    refine Sub.of_eq ?_;show(l.map Cl.v0).getD k' .dead=_;rw[Az (f:=Cl.v0) (a:=.dead) rfl];simp only[gDE,List.getElem?_set_ne (Ne.symm u)]
 |arr ro t d xs=>
  have h:(bif ro then none else match WG t d (AdR xs i t.dflt) k c with
   |some x=>some (Ab.arr ro t d (setX xs i x))
   |none=>none)=some r':=h
  cases A:ro with
  |true=>rw[A]at h;cases h
  |false=>
   rw[A]at h;simp only[cond_false]at h;split at h
   case h_2=>cases h
   rename_i x H;cases h;obtain⟨g1,g2,O⟩:=setT_v _ _ _ _ _ _ H;refine⟨_,_,_,_,rfl,?_⟩;show Sub _ (arr true t.w (tyV t d) t.dflt (xs.set i x));unfold arr;rw[List.length_set];refine⟨_,rfl,λi' k' hi J=>?_⟩
   show Sub _ ((tyV t d ((xs.set i x).getD i' t.dflt)).getD k' .dead)
   dsimp only
   by_cases B:i'=i
   .subst B
    have e:(xs.set i' x).getD i' t.dflt=x:=by simp[hi]
    rw[e];by_cases u:k'=k
    .subst u
     rw[if_pos ⟨rfl,rfl⟩];exact F.trans g2
    .rw[if_neg (λh=>u h.2),O k' u]
     exact Sub.refl _
   .rw[if_neg (λh=>B h.1)]
    have e:(xs.set i x).getD i' t.dflt=xs.getD i' t.dflt:=by simp only[gDE,List.getElem?_set_ne (Ne.symm B)]
    rw[e];exact Sub.refl _
theorem cl_v{n:Ab}(h:n.cl=some c):c.v0=n.v/\c.node n.ro=n:=by
 unfold Ab.cl at h;split at h
 .cases h;trivial
 grind
theorem ML{p:AG}(h:r.setAt p i k c=some r'):r≠.dead:=by
 rintro rfl
 cases p with
 |nil=>cases h
 |cons a p=>
  unfold Ab.setAt at h;split at h
  .split at h<;>cases h
  grind
theorem HS{i k:Nat}{c:Cl}{X:V}(H:Sub X c.v0):∀(p:AG) (r r':Ab),r.setAt p i k c=some r'->Sub (upd (p++[(i,k)]) r.v X) r'.v
 |[],r,r',h=>by
  obtain⟨s,sz,n,f,u,E⟩:=Oe h H;rw[u];exact E
 |(i0,k0)::p,r,r',h=>by
  unfold Ab.setAt at h;split at h
  case h_2=>cases h
  rename_i n F;split at h
  case h_2=>cases h
  rename_i c' W;have O:=HS H p _ _ F;have A:=ML F;obtain⟨Y,_⟩:=cl_v W;obtain⟨s,sz,m,f,u,E⟩:=Oe h (Y▸O);have U:r.live=true:=by cases r<;>first|rfl|cases h
  obtain⟨Z,J,m2,f2,e,B,_⟩:=QM r U;rw[u]at e;obtain⟨rfl,rfl,rfl,rfl⟩:=e;rw[u];show Sub (V.nd s true sz m λi' k'=>if i'=i0/\k'=k0 then upd (p++[(i,k)]) (f i0 k0) X else f i' k') r'.v
  rw[B i0 k0,Abs A]
  grind
def Hx(p:AG)(r r':Ab)(h:r.setAt p i k c=some r'):Sub (upd (p++[(i,k)]) r.v c.v0) r'.v:=HS (Sub.refl _) p r r' h
def VH:∀(t:Ty) (d:Nat) (x:t.T) (k:Nat) (c:Cl) (y:t.T),WG t d x k c=some y->∀j,j≠k->(Aq t d y).getD j .dead=(Aq t d x).getD j .dead:=by
 have e:∀(t:Ty) (d:Nat) (x:t.T) (k:Nat) (c:Cl) (y:t.T),t.one=true->(bif beq k 0 then DV t d c else none)=some y->∀j,j≠k->(Aq t d y).getD j .dead=(Aq t d x).getD j .dead:=by
  intro t d x k c y J h j hj;cases A:beq k 0 with
  |false=>rw[A]at h;cases h
  |true=>
   have O:=bqE A;subst O;cases j with
   |zero=>exact absurd rfl hj
   |succ j=>cases t<;>first|rfl|cases J
 have len:∀(t:Ty) (d:Nat) (x:t.T),(Aq t d x).length=t.w:=by
  intro t d x;have:=congrArg List.length (Bs t d x);rw[List.length_map,Av]at this;exact this
 intro t
 induction t with
 |pair a b F E=>
  intro d x k c y h j hj;unfold WG at h;cases A:blt k a.w with
  |true=>
   rw[A]at h;simp only[cond_true]at h;split at h
   case h_2=>cases h
   rename_i B H;cases h;show(Aq a d B++Aq b d x.2).getD j .dead=(Aq a d x.1++Aq b d x.2).getD j .dead;by_cases u:j<a.w
   .have:=F _ _ _ _ _ H j hj
    simp only[gDE]at this⊢;rw[gAL (by rw[len];exact u),gAL (by rw[len];exact u)]
    exact this
   .simp only[gDE]
    rw[gAR (by rw[len];omega),gAR (by rw[len];omega),len,len]
  |false=>
   rw[A]at h;have A:a.w<=k:=by
    rcases lt_or_ge k a.w with h'|h'
    .rw[show blt k a.w=true from Nat.ble_eq_true_of_le h']at A;cases A
    .exact h'
   simp only[cond_false]at h;split at h
   case h_2=>cases h
   rename_i B H;cases h;show(Aq a d x.1++Aq b d B).getD j .dead=(Aq a d x.1++Aq b d x.2).getD j .dead;by_cases u:j<a.w
   .simp only[gDE]
    rw[gAL (by rw[len];exact u),gAL (by rw[len];exact u)]
   .have:=E _ _ _ _ _ H (j-a.w) (by omega)
    simp only[gDE]at this⊢;rw[gAR (by rw[len];omega),gAR (by rw[len];omega),len]
    exact this
 |unit=>intro d x k c y h;cases h
 |osl t _=>intro d x k c y h;exact e (.osl t) d x k c y rfl h
 |mp a b _ _=>intro d x k c y h;exact e (.mp a b) d x k c y rfl h
 |_=>intro d x k c y h;exact e _ d x k c y rfl h
theorem HR(h:r.setCell i k c=some r'):r'.len=r.len/\r'.ro=r.ro/\∀u k1,(u≠i\/k1≠k)->(r'.cells u).getD k1 .dead=(r.cells u).getD k1 .dead:=by
 cases r with
 |dead=>cases h
 |opt=>cases h
 |mp=>cases h
 |obj ro l=>
  have h:(bif ro then none else match i with
   |0=>bif blt k l.length then some (Ab.obj ro (l.set k c))else none
   |_+1=>none)=some r':=h
  cases A:ro with
  |true=>rw[A]at h;cases h
  |false=>
   rw[A]at h;simp only[cond_false]at h;split at h
   case h_2=>cases h
   obtain⟨O,h⟩:=A1 h;cases h;refine⟨rfl,rfl,λu k1 B=>?_⟩
   cases u with
   |succ u=>rfl
   |zero=>
    have F:k1≠k:=by rcases B with h|h;exact absurd rfl h;exact h
    show(l.set k c).getD k1 .dead=l.getD k1 .dead;simp only[gDE,List.getElem?_set_ne (Ne.symm F)]
 |arr ro t d xs=>
  have h:(bif ro then none else match WG t d (AdR xs i t.dflt) k c with
   |some x=>some (Ab.arr ro t d (setX xs i x))
   |none=>none)=some r':=h
  cases A:ro with
  |true=>rw[A]at h;cases h
  |false=>
   rw[A]at h;simp only[cond_false]at h;split at h
   case h_2=>cases h
   rename_i x J;cases h;refine⟨by show(xs.set i x).length=xs.length;simp,rfl,λu k1 B=>?_⟩
   show(Aq t d ((xs.set i x).getD u t.dflt)).getD k1 .dead=(Aq t d (xs.getD u t.dflt)).getD k1 .dead;by_cases H:u=i
   .subst H
    have F:k1≠k:=by rcases B with h|h;exact absurd rfl h;exact h
    by_cases E:u<xs.length
    .have e:(xs.set u x).getD u t.dflt=x:=by simp[E]
     rw[e];exact VH _ _ _ _ _ _ J k1 F
    .rw[List.set_eq_of_length_le (by omega)]
   grind
def Og{t0:Ty}{d0:Nat}{ys:List t0.T}(h:r.setCell i k (.c (.sl t0) (d0+1) ys)=some r'):(r'.cells i).getD k .dead=.c (.sl t0) (d0+1) ys\/r'=r:=by
 have key:∀(t:Ty) (d:Nat) (x:t.T) (k:Nat) (y:t.T),WG t d x k (.c (.sl t0) (d0+1) ys)=some y->(Aq t d y).getD k .dead=.c (.sl t0) (d0+1) ys:=by
  have A:∀(t:Ty) (d:Nat) (x:t.T) (k:Nat) (y:t.T),t.one=true->(bif beq k 0 then DV t d (.c (.sl t0) (d0+1) ys)else none)=some y->(Aq t d y).getD k .dead=.c (.sl t0) (d0+1) ys:=by
   intro t d x k y Z h;cases u:beq k 0 with
   |false=>rw[u]at h;cases h
   |true=>
    rw[u]at h;have Y:=bqE u;subst Y;simp only[cond_true]at h;unfold DV at h;simp only at h;split at h
    case isFalse=>cases h
    rename_i W;subst W;obtain⟨hd,h⟩:=A1 h;cases h;unfold dOK at hd;have hd:d0+1=d:=bqE (by simpa [Ty.dep]using hd)
    subst hd;rfl
  have len:∀(t:Ty) (d:Nat) (x:t.T),(Aq t d x).length=t.w:=by
   intro t d x;have:=congrArg List.length (Bs t d x);rw[List.length_map,Av]at this;exact this
  intro t
  induction t with
  |pair a b H F=>
   intro d x k y h;unfold WG at h;cases u:blt k a.w with
   |true=>
    rw[u]at h;have u:k<a.w:=blE u;simp only[cond_true]at h;split at h
    case h_2=>cases h
    rename_i E O;cases h;show(Aq a d E++Aq b d x.2).getD k .dead=_;rw[gDE,gAL (by rw[len];exact u),<-gDE]
    exact H _ _ _ _ O
   |false=>
    rw[u]at h;have u:a.w<=k:=by
     rcases lt_or_ge k a.w with h'|h'
     .rw[show blt k a.w=true from Nat.ble_eq_true_of_le h']at u;cases u
     .exact h'
    simp only[cond_false]at h;split at h
    case h_2=>cases h
    rename_i E O;cases h;show(Aq a d x.1++Aq b d E).getD k .dead=_;rw[gDE,gAR (by rw[len];exact u),<-gDE,len]
    exact F _ _ _ _ O
  |unit=>intro d x k y h;cases h
  |osl t _=>intro d x k y h;exact A (.osl t) d x k y rfl h
  |mp a b _ _=>intro d x k y h;exact A (.mp a b) d x k y rfl h
  |_=>intro d x k y h;exact A _ d x k y rfl h
 cases r with
 |dead=>cases h
 |opt=>cases h
 |mp=>cases h
 |obj ro l=>
  have h:(bif ro then none else match i with
   |0=>bif blt k l.length then some (Ab.obj ro (l.set k (.c (.sl t0) (d0+1) ys)))else none
   |_+1=>none)=some r':=h
  cases B:ro with
  |true=>rw[B]at h;cases h
  |false=>
   rw[B]at h;simp only[cond_false]at h;split at h
   case h_2=>cases h
   obtain⟨u,h⟩:=A1 h;have u:k<l.length:=blE u;cases h;left;show(l.set k _).getD k .dead=_;simp only[gDE,List.getElem?_set_self u,Option.getD_some]
 |arr ro t d xs=>
  have h:(bif ro then none else match WG t d (xs.getD i t.dflt) k (.c (.sl t0) (d0+1) ys)with
   |some x=>some (Ab.arr ro t d (xs.set i x))
   |none=>none)=some r':=h
  cases B:ro with
  |true=>rw[B]at h;cases h
  |false=>
   rw[B]at h;simp only[cond_false]at h;split at h
   case h_2=>cases h
   rename_i x U;cases h;by_cases J:i<xs.length
   .left
    show(Aq t d ((xs.set i x).getD i t.dflt)).getD k .dead=_;have e:(xs.set i x).getD i t.dflt=x:=by simp[J]
    rw[e];exact key _ _ _ _ _ U
   .right
    rw[List.set_eq_of_length_le (by omega)]
def pre:List Nat->AG->Bool
 |[],_=>true
 |k::ks,(_,l)::q=>beq k l&&pre ks q
 |_::_,[]=>false
def LG:∀{P q:AG},AR P q=true->pre (P.map (·.2)) q=true
 |[],_,_=>rfl
 |(i,k)::P,(j,l)::q,h=>by
  simp[AR,beq_iff_eq]at h;obtain⟨⟨_,rfl⟩,h⟩:=h;simp[pre,LG h]
 |_::_,[],h=>by cases h
def Qz{a b:Bool}{t:Ty}{d:Nat}{x:Option (List t.T)}:(Ab.opt a t d x).len=(Ab.opt b t d x).len:=by cases x<;>rfl
def Jb{i k:Nat}{c:Cl}:∀(p:AG) (r r':Ab),r.setAt p i k c=some r'->∀q:AG,pre ((p++[(i,k)]).map (·.2)) q=false->(r'.at' q).len=(r.at' q).len
 |[],r,r',h,q,hq=>by
  obtain⟨Y,W,U⟩:=HR h;cases q with
  |nil=>exact Y
  |cons a q=>
   obtain⟨u,k1⟩:=a;have hk:k1≠k:=by
    rintro rfl
    simp[pre]at hq
   show((((r'.cells u).getD k1 .dead).node r'.ro).at' q).len=((((r.cells u).getD k1 .dead).node r.ro).at' q).len;rw[U u k1 (.inr hk),W]
 |(i0,k0)::p,r,r',h,q,hq=>by
  unfold Ab.setAt at h;split at h
  case h_2=>cases h
  rename_i n Z;split at h
  case h_2=>cases h
  rename_i c' H;obtain⟨Y,W,U⟩:=HR h;cases q with
  |nil=>exact Y
  |cons a q=>
   obtain⟨u,k1⟩:=a;by_cases F:u=i0/\k1=k0
   .obtain⟨rfl,rfl⟩:=F
    have O:pre ((p++[(i,k)]).map (·.2)) q=false:=by simpa [pre]using hq
    have J:=Jb p _ _ Z q O;show((((r'.cells u).getD k1 .dead).node r'.ro).at' q).len=((((r.cells u).getD k1 .dead).node r.ro).at' q).len;unfold Ab.cl at H;split at H
    case h_2=>cases H
    rename_i ro t0 d0 ys;cases H;rcases Og h with e|e
    .rw[e,<-J]
     -- the read-only mark does not matter
     have E:∀(q:AG) (t:Ty) (d:Nat) (xs:List t.T) (a b:Bool),((Ab.arr a t d xs).at' q).len=((Ab.arr b t d xs).at' q).len:=by
      have gen:∀(q:AG) (B A:Ab),B.len=A.len->(∀i,B.cells i=A.cells i)->(B.at' q).len=(A.at' q).len:=by
       intro q
       induction q with
       |nil=>intro B A h _;exact h
       |cons a q J=>
        intro B A _ h;obtain⟨i,k⟩:=a;show((((B.cells i).getD k .dead).node B.ro).at' q).len=((((A.cells i).getD k .dead).node A.ro).at' q).len;rw[h i];refine J _ _ ?_ ?_
        .unfold Cl.node;split<;>first|rfl|exact Qz
        .intro i';unfold Cl.node;split<;>first|rfl|(cases i'<;>rfl)
      intro q t d xs a b;exact gen q _ _ rfl λ_=>rfl
     exact E q t0 d0 ys _ _
    .rw[e]
   .have:u≠i0\/k1≠k0:=by
     by_cases h:u=i0
     .right;intro h';exact F ⟨h,h'⟩
     .left;exact h
    show((((r'.cells u).getD k1 .dead).node r'.ro).at' q).len=((((r.cells u).getD k1 .dead).node r.ro).at' q).len;rw[U u k1 this,W]
end Go.Ve

