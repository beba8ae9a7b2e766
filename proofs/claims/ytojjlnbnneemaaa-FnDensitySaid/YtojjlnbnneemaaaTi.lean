/- The typed machine: stores. -/
import Derived.Test.YtojjlnbnneemaaaTh
open Nat(blt beq lt_or_ge)
set_option linter.all false
namespace Go.Ve
variable{r r':Ae}{c:Cl}{i k:Nat}
def Vb:(t:Ty)->Nat->t.T->Nat->Cl->Option t.T
 |.pair a b,d,x,k,c=>bif blt k a.w then(match Vb a d x.1 k c with
   |some y=>some (y,x.2)
   |none=>none)else(match Vb b d x.2 (k-a.w) c with
   |some y=>some (x.1,y)
   |none=>none)
 |.unit,_,_,_,_=>none
 |.int n,d,_,k,c=>bif beq k 0 then DX (.int n) d c else none
 |.bool,d,_,k,c=>bif beq k 0 then DX .bool d c else none
 |.str,d,_,k,c=>bif beq k 0 then DX .str d c else none
 |.sl t,d,_,k,c=>bif beq k 0 then DX (.sl t) d c else none
 |.ptr t,d,_,k,c=>bif beq k 0 then DX (.ptr t) d c else none
 |.clo g t,d,_,k,c=>bif beq k 0 then DX (.clo g t) d c else none
 |.osl t,d,_,k,c=>bif beq k 0 then DX (.osl t) d c else none
 |.mp a b,d,_,k,c=>bif beq k 0 then DX (.mp a b) d c else none
def setT_v:∀(t:Ty) (d:Nat) (x:t.T) (k:Nat) (c:Cl) (y:t.T),Vb t d x k c=some y->k<t.w/\Sub c.v0 ((tyV t d y).getD k .dead)/\∀j,j≠k->(tyV t d y).getD j .dead=(tyV t d x).getD j .dead:=by
 have u:∀(t:Ty) (d:Nat) (x:t.T) (k:Nat) (c:Cl) (y:t.T),t.one=true->(bif beq k 0 then DX t d c else none)=some y->k<t.w/\Sub c.v0 ((tyV t d y).getD k .dead)/\∀j,j≠k->(tyV t d y).getD j .dead=(tyV t d x).getD j .dead:=by
  intro t d x k c y Y h;obtain⟨B,h⟩:=Bc h;have hk:=bqE B;subst hk;obtain⟨J,h2⟩:=LZ h [];rw[BN Y,BN Y];refine⟨(by cases t<;>first|exact Nat.one_pos|cases Y),(by rw[<-h2];exact J),λj O=>?_⟩
  cases j with
  |zero=>exact absurd rfl O
  |succ j=>rfl
 intro t
 induction t with
 |pair a b W U=>
  intro d x k c y h;unfold Vb at h;cases B:blt k a.w with
  |true=>
   rw[B]at h;have B:k<a.w:=blE B;simp only[cond_true]at h;split at h
   case h_2=>cases h
   rename_i E J;cases h;obtain⟨g1,g2,Z⟩:=W _ _ _ _ _ J;refine⟨by show k<a.w+b.w;omega,?_,λj O=>?_⟩
   .show Sub _ ((tyV a d E++tyV b d x.2).getD k .dead)
    rw[gDE,gAL (by rw[AB];exact B),<-gDE]
    exact g2
   .show(tyV a d E++tyV b d x.2).getD j .dead=(tyV a d x.1++tyV b d x.2).getD j .dead
    by_cases A:j<a.w
    .have:=Z j O
     simp only[gDE]at this⊢;rw[gAL (by rw[AB];exact A),gAL (by rw[AB];exact A)]
     exact this
    .simp only[gDE]
     rw[gAR (by rw[AB];omega),gAR (by rw[AB];omega),AB,AB]
  |false=>
   rw[B]at h;have B:a.w<=k:=by
    rcases lt_or_ge k a.w with h'|h'
    .rw[show blt k a.w=true from Nat.ble_eq_true_of_le h']at B;cases B
    .exact h'
   simp only[cond_false]at h;split at h
   case h_2=>cases h
   rename_i E J;cases h;obtain⟨g1,g2,Z⟩:=U _ _ _ _ _ J;refine⟨by show k<a.w+b.w;omega,?_,λj O=>?_⟩
   .show Sub _ ((tyV a d x.1++tyV b d E).getD k .dead)
    rw[gDE,gAR (by rw[AB];exact B),<-gDE,AB]
    exact g2
   .show(tyV a d x.1++tyV b d E).getD j .dead=(tyV a d x.1++tyV b d x.2).getD j .dead
    by_cases A:j<a.w
    .simp only[gDE]
     rw[gAL (by rw[AB];exact A),gAL (by rw[AB];exact A)]
    .have:=Z (j-a.w) (by omega)
     simp only[gDE]at this⊢;rw[gAR (by rw[AB];omega),gAR (by rw[AB];omega),AB]
     exact this
 |unit=>intro d x k c y h;cases h
 |osl t _=>intro d x k c y h;exact u (.osl t) d x k c y rfl h
 |mp a b _ _=>intro d x k c y h;exact u (.mp a b) d x k c y rfl h
 |_=>intro d x k c y h;exact u _ d x k c y rfl h
def Ae.setCell:Ae->Nat->Nat->Cl->Option Ae
 |.obj ro l,i,k,c=>bif ro then none else match i with
  |0=>bif blt k l.length then some (.obj ro (l.set k c))else none
  |_+1=>none
 |.arr ro t d xs,i,k,c=>bif ro then none else match Vb t d (Acv xs i t.dflt) k c with
  |some x=>some (.arr ro t d (setX xs i x))
  |none=>none
 |.dead,_,_,_=>none
 |.opt _ _ _ _,_,_,_=>none
 |.mp _ _ _ _,_,_,_=>none
def Ae.cl:Ae->Option Cl
 |.arr _ t d xs=>some (.c (.sl t) (d+1) xs)
 |_=>none
def Ae.setAt:Ae->AX->Nat->Nat->Cl->Option Ae
 |r,[],i,k,c=>r.setCell i k c
 |r,(i0,k0)::p,i,k,c=>match(((r.cells i0).getD k0 .dead).node r.ro).setAt p i k c with
  |some n=>match n.cl with
   |some c'=>r.setCell i0 k0 c'
   |none=>none
  |none=>none
def Nf(h:r.setCell i k c=some r'){X:V}(O:Sub X c.v0):∃s sz n f,r.v=.nd s true sz n f/\Sub (.nd s true sz n λi' k'=>if i'=i/\k'=k then X else f i' k') r'.v:=by
 cases r with
 |dead=>cases h
 |opt=>cases h
 |mp=>cases h
 |obj ro l=>
  have h:(bif ro then none else match i with
   |0=>bif blt k l.length then some (Ae.obj ro (l.set k c))else none
   |_+1=>none)=some r':=h
  cases A:ro with
  |true=>rw[A]at h;cases h
  |false=>
   rw[A]at h;simp only[cond_false]at h;split at h
   case h_2=>cases h
   obtain⟨E,h⟩:=Bc h;have E:k<l.length:=blE E;cases h;refine⟨_,_,_,_,rfl,?_⟩;show Sub _ (Bp true ((l.set k c).map Cl.v0));unfold Bp;rw[List.length_map,List.length_map,List.length_set];refine⟨_,rfl,λi' k' J W=>?_⟩
   obtain rfl:i'=0:=by omega
   show Sub _ (((l.set k c).map Cl.v0).getD k' .dead)
   dsimp only
   rw[AM (f:=Cl.v0) (a:=.dead) rfl];by_cases u:k'=k
   .subst u
    rw[if_pos ⟨rfl,rfl⟩];simp only[gDE,List.getElem?_set_self E,Option.getD_some];exact O
   .rw[if_neg (λh=>u h.2)]
    refine Sub.of_eq ?_;show(l.map Cl.v0).getD k' .dead=_;rw[AM (f:=Cl.v0) (a:=.dead) rfl];simp only[gDE,List.getElem?_set_ne (Ne.symm u)]
 |arr ro t d xs=>
  have h:(bif ro then none else match Vb t d (Acv xs i t.dflt) k c with
   |some x=>some (Ae.arr ro t d (setX xs i x))
   |none=>none)=some r':=h
  cases A:ro with
  |true=>rw[A]at h;cases h
  |false=>
   rw[A]at h;simp only[cond_false]at h;split at h
   case h_2=>cases h
   rename_i x U;cases h;obtain⟨g1,g2,Y⟩:=setT_v _ _ _ _ _ _ U;refine⟨_,_,_,_,rfl,?_⟩;show Sub _ (arr true t.w (tyV t d) t.dflt (xs.set i x));unfold arr;rw[List.length_set];refine⟨_,rfl,λi' k' J W=>?_⟩
   show Sub _ ((tyV t d ((xs.set i x).getD i' t.dflt)).getD k' .dead)
   dsimp only
   by_cases B:i'=i
   .subst B
    have e:(xs.set i' x).getD i' t.dflt=x:=by simp[J]
    rw[e];by_cases u:k'=k
    .subst u
     rw[if_pos ⟨rfl,rfl⟩];exact O.trans g2
    .rw[if_neg (λh=>u h.2),Y k' u]
     exact Sub.refl _
   .rw[if_neg (λh=>B h.1)]
    have e:(xs.set i x).getD i' t.dflt=xs.getD i' t.dflt:=by simp only[gDE,List.getElem?_set_ne (Ne.symm B)]
    rw[e];exact Sub.refl _
theorem cl_v{n:Ae}(h:n.cl=some c):c.v0=n.v/\c.node n.ro=n:=by
 unfold Ae.cl at h;split at h
 .cases h;trivial
 grind
theorem PZ{p:AX}(h:r.setAt p i k c=some r'):r≠.dead:=by
 rintro rfl
 cases p with
 |nil=>cases h
 |cons a p=>
  unfold Ae.setAt at h;split at h
  .split at h<;>cases h
  grind
theorem Hu{i k:Nat}{c:Cl}{X:V}(U:Sub X c.v0):∀(p:AX) (r r':Ae),r.setAt p i k c=some r'->Sub (upd (p++[(i,k)]) r.v X) r'.v
 |[],r,r',h=>by
  obtain⟨s,sz,n,f,A,J⟩:=Nf h U;rw[A];exact J
 |(i0,k0)::p,r,r',h=>by
  unfold Ae.setAt at h;split at h
  case h_2=>cases h
  rename_i n O;split at h
  case h_2=>cases h
  rename_i c' hc;have Y:=Hu U p _ _ O;have B:=PZ O;obtain⟨h1,_⟩:=cl_v hc;obtain⟨s,sz,m,f,A,J⟩:=Nf h (h1▸Y);have Z:r.live=true:=by cases r<;>first|rfl|cases h
  obtain⟨s2,W,m2,f2,u,E,_⟩:=Px r Z;rw[A]at u;obtain⟨rfl,rfl,rfl,rfl⟩:=u;rw[A];show Sub (V.nd s true sz m λi' k'=>if i'=i0/\k'=k0 then upd (p++[(i,k)]) (f i0 k0) X else f i' k') r'.v
  rw[E i0 k0,ZX B]
  grind
def H9(p:AX)(r r':Ae)(h:r.setAt p i k c=some r'):Sub (upd (p++[(i,k)]) r.v c.v0) r'.v:=Hu (Sub.refl _) p r r' h
def Ui:∀(t:Ty) (d:Nat) (x:t.T) (k:Nat) (c:Cl) (y:t.T),Vb t d x k c=some y->∀j,j≠k->(AA t d y).getD j .dead=(AA t d x).getD j .dead:=by
 have u:∀(t:Ty) (d:Nat) (x:t.T) (k:Nat) (c:Cl) (y:t.T),t.one=true->(bif beq k 0 then DX t d c else none)=some y->∀j,j≠k->(AA t d y).getD j .dead=(AA t d x).getD j .dead:=by
  intro t d x k c y Y h j U;cases B:beq k 0 with
  |false=>rw[B]at h;cases h
  |true=>
   have Z:=bqE B;subst Z;cases j with
   |zero=>exact absurd rfl U
   |succ j=>cases t<;>first|rfl|cases Y
 have len:∀(t:Ty) (d:Nat) (x:t.T),(AA t d x).length=t.w:=by
  intro t d x;have:=congrArg List.length (BM t d x);rw[List.length_map,AB]at this;exact this
 intro t
 induction t with
 |pair a b O J=>
  intro d x k c y h j U;unfold Vb at h;cases B:blt k a.w with
  |true=>
   rw[B]at h;simp only[cond_true]at h;split at h
   case h_2=>cases h
   rename_i E W;cases h;show(AA a d E++AA b d x.2).getD j .dead=(AA a d x.1++AA b d x.2).getD j .dead;by_cases A:j<a.w
   .have:=O _ _ _ _ _ W j U
    simp only[gDE]at this⊢;rw[gAL (by rw[len];exact A),gAL (by rw[len];exact A)]
    exact this
   .simp only[gDE]
    rw[gAR (by rw[len];omega),gAR (by rw[len];omega),len,len]
  |false=>
   rw[B]at h;have B:a.w<=k:=by
    rcases lt_or_ge k a.w with h'|h'
    .rw[show blt k a.w=true from Nat.ble_eq_true_of_le h']at B;cases B
    .exact h'
   simp only[cond_false]at h;split at h
   case h_2=>cases h
   rename_i E W;cases h;show(AA a d x.1++AA b d E).getD j .dead=(AA a d x.1++AA b d x.2).getD j .dead;by_cases A:j<a.w
   .simp only[gDE]
    rw[gAL (by rw[len];exact A),gAL (by rw[len];exact A)]
   .have:=J _ _ _ _ _ W (j-a.w) (by omega)
    simp only[gDE]at this⊢;rw[gAR (by rw[len];omega),gAR (by rw[len];omega),len]
    exact this
 |unit=>intro d x k c y h;cases h
 |osl t _=>intro d x k c y h;exact u (.osl t) d x k c y rfl h
 |mp a b _ _=>intro d x k c y h;exact u (.mp a b) d x k c y rfl h
 |_=>intro d x k c y h;exact u _ d x k c y rfl h
theorem Ht(h:r.setCell i k c=some r'):r'.len=r.len/\r'.ro=r.ro/\∀u k1,(u≠i\/k1≠k)->(r'.cells u).getD k1 .dead=(r.cells u).getD k1 .dead:=by
 cases r with
 |dead=>cases h
 |opt=>cases h
 |mp=>cases h
 |obj ro l=>
  have h:(bif ro then none else match i with
   |0=>bif blt k l.length then some (Ae.obj ro (l.set k c))else none
   |_+1=>none)=some r':=h
  cases A:ro with
  |true=>rw[A]at h;cases h
  |false=>
   rw[A]at h;simp only[cond_false]at h;split at h
   case h_2=>cases h
   obtain⟨W,h⟩:=Bc h;cases h;refine⟨rfl,rfl,λu k1 B=>?_⟩
   cases u with
   |succ u=>rfl
   |zero=>
    have J:k1≠k:=by rcases B with h|h;exact absurd rfl h;exact h
    show(l.set k c).getD k1 .dead=l.getD k1 .dead;simp only[gDE,List.getElem?_set_ne (Ne.symm J)]
 |arr ro t d xs=>
  have h:(bif ro then none else match Vb t d (Acv xs i t.dflt) k c with
   |some x=>some (Ae.arr ro t d (setX xs i x))
   |none=>none)=some r':=h
  cases A:ro with
  |true=>rw[A]at h;cases h
  |false=>
   rw[A]at h;simp only[cond_false]at h;split at h
   case h_2=>cases h
   rename_i x U;cases h;refine⟨by show(xs.set i x).length=xs.length;simp,rfl,λu k1 B=>?_⟩
   show(AA t d ((xs.set i x).getD u t.dflt)).getD k1 .dead=(AA t d (xs.getD u t.dflt)).getD k1 .dead;by_cases O:u=i
   .subst O
    have J:k1≠k:=by rcases B with h|h;exact absurd rfl h;exact h
    by_cases E:u<xs.length
    .have e:(xs.set u x).getD u t.dflt=x:=by simp[E]
     rw[e];exact Ui _ _ _ _ _ _ U k1 J
    .rw[List.set_eq_of_length_le (by omega)]
   grind
def Ng{t0:Ty}{d0:Nat}{ys:List t0.T}(h:r.setCell i k (.c (.sl t0) (d0+1) ys)=some r'):(r'.cells i).getD k .dead=.c (.sl t0) (d0+1) ys\/r'=r:=by
 have key:∀(t:Ty) (d:Nat) (x:t.T) (k:Nat) (y:t.T),Vb t d x k (.c (.sl t0) (d0+1) ys)=some y->(AA t d y).getD k .dead=.c (.sl t0) (d0+1) ys:=by
  have A:∀(t:Ty) (d:Nat) (x:t.T) (k:Nat) (y:t.T),t.one=true->(bif beq k 0 then DX t d (.c (.sl t0) (d0+1) ys)else none)=some y->(AA t d y).getD k .dead=.c (.sl t0) (d0+1) ys:=by
   intro t d x k y ho h;cases u:beq k 0 with
   |false=>rw[u]at h;cases h
   |true=>
    rw[u]at h;have hk:=bqE u;subst hk;simp only[cond_true]at h;unfold DX at h;simp only at h;split at h
    case isFalse=>cases h
    rename_i Z;subst Z;obtain⟨hd,h⟩:=Bc h;cases h;unfold dOK at hd;have hd:d0+1=d:=bqE (by simpa [Ty.dep]using hd)
    subst hd;rfl
  have len:∀(t:Ty) (d:Nat) (x:t.T),(AA t d x).length=t.w:=by
   intro t d x;have:=congrArg List.length (BM t d x);rw[List.length_map,AB]at this;exact this
  intro t
  induction t with
  |pair a b O J=>
   intro d x k y h;unfold Vb at h;cases u:blt k a.w with
   |true=>
    rw[u]at h;have u:k<a.w:=blE u;simp only[cond_true]at h;split at h
    case h_2=>cases h
    rename_i E W;cases h;show(AA a d E++AA b d x.2).getD k .dead=_;rw[gDE,gAL (by rw[len];exact u),<-gDE]
    exact O _ _ _ _ W
   |false=>
    rw[u]at h;have u:a.w<=k:=by
     rcases lt_or_ge k a.w with h'|h'
     .rw[show blt k a.w=true from Nat.ble_eq_true_of_le h']at u;cases u
     .exact h'
    simp only[cond_false]at h;split at h
    case h_2=>cases h
    rename_i E W;cases h;show(AA a d x.1++AA b d E).getD k .dead=_;rw[gDE,gAR (by rw[len];exact u),<-gDE,len]
    exact J _ _ _ _ W
  |unit=>intro d x k y h;cases h
  |osl t _=>intro d x k y h;exact A (.osl t) d x k y rfl h
  |mp a b _ _=>intro d x k y h;exact A (.mp a b) d x k y rfl h
  |_=>intro d x k y h;exact A _ d x k y rfl h
 cases r with
 |dead=>cases h
 |opt=>cases h
 |mp=>cases h
 |obj ro l=>
  have h:(bif ro then none else match i with
   |0=>bif blt k l.length then some (Ae.obj ro (l.set k (.c (.sl t0) (d0+1) ys)))else none
   |_+1=>none)=some r':=h
  cases B:ro with
  |true=>rw[B]at h;cases h
  |false=>
   rw[B]at h;simp only[cond_false]at h;split at h
   case h_2=>cases h
   obtain⟨u,h⟩:=Bc h;have u:k<l.length:=blE u;cases h;left;show(l.set k _).getD k .dead=_;simp only[gDE,List.getElem?_set_self u,Option.getD_some]
 |arr ro t d xs=>
  have h:(bif ro then none else match Vb t d (xs.getD i t.dflt) k (.c (.sl t0) (d0+1) ys)with
   |some x=>some (Ae.arr ro t d (xs.set i x))
   |none=>none)=some r':=h
  cases B:ro with
  |true=>rw[B]at h;cases h
  |false=>
   rw[B]at h;simp only[cond_false]at h;split at h
   case h_2=>cases h
   rename_i x Y;cases h;by_cases U:i<xs.length
   .left
    show(AA t d ((xs.set i x).getD i t.dflt)).getD k .dead=_;have e:(xs.set i x).getD i t.dflt=x:=by simp[U]
    rw[e];exact key _ _ _ _ _ Y
   .right
    rw[List.set_eq_of_length_le (by omega)]
def pre:List Nat->AX->Bool
 |[],_=>true
 |k::ks,(_,l)::q=>beq k l&&pre ks q
 |_::_,[]=>false
def NI:∀{P q:AX},AT P q=true->pre (P.map (·.2)) q=true
 |[],_,_=>rfl
 |(i,k)::P,(j,l)::q,h=>by
  simp[AT,beq_iff_eq]at h;obtain⟨⟨_,rfl⟩,h⟩:=h;simp[pre,NI h]
 |_::_,[],h=>by cases h
def Pl{a b:Bool}{t:Ty}{d:Nat}{x:Option (List t.T)}:(Ae.opt a t d x).len=(Ae.opt b t d x).len:=by cases x<;>rfl
def JF{i k:Nat}{c:Cl}:∀(p:AX) (r r':Ae),r.setAt p i k c=some r'->∀q:AX,pre ((p++[(i,k)]).map (·.2)) q=false->(r'.at' q).len=(r.at' q).len
 |[],r,r',h,q,hq=>by
  obtain⟨h1,Z,Y⟩:=Ht h;cases q with
  |nil=>exact h1
  |cons a q=>
   obtain⟨u,k1⟩:=a;have hk:k1≠k:=by
    rintro rfl
    simp[pre]at hq
   show((((r'.cells u).getD k1 .dead).node r'.ro).at' q).len=((((r.cells u).getD k1 .dead).node r.ro).at' q).len;rw[Y u k1 (.inr hk),Z]
 |(i0,k0)::p,r,r',h,q,hq=>by
  unfold Ae.setAt at h;split at h
  case h_2=>cases h
  rename_i n hn;split at h
  case h_2=>cases h
  rename_i c' O;obtain⟨h1,Z,Y⟩:=Ht h;cases q with
  |nil=>exact h1
  |cons a q=>
   obtain⟨u,k1⟩:=a;by_cases J:u=i0/\k1=k0
   .obtain⟨rfl,rfl⟩:=J
    have W:pre ((p++[(i,k)]).map (·.2)) q=false:=by simpa [pre]using hq
    have U:=JF p _ _ hn q W;show((((r'.cells u).getD k1 .dead).node r'.ro).at' q).len=((((r.cells u).getD k1 .dead).node r.ro).at' q).len;unfold Ae.cl at O;split at O
    case h_2=>cases O
    rename_i ro t0 d0 ys;cases O;rcases Ng h with e|e
    .rw[e,<-U]
     -- the read-only mark does not matter
     have E:∀(q:AX) (t:Ty) (d:Nat) (xs:List t.T) (a b:Bool),((Ae.arr a t d xs).at' q).len=((Ae.arr b t d xs).at' q).len:=by
      have gen:∀(q:AX) (B A:Ae),B.len=A.len->(∀i,B.cells i=A.cells i)->(B.at' q).len=(A.at' q).len:=by
       intro q
       induction q with
       |nil=>intro B A h _;exact h
       |cons a q U=>
        intro B A _ h;obtain⟨i,k⟩:=a;show((((B.cells i).getD k .dead).node B.ro).at' q).len=((((A.cells i).getD k .dead).node A.ro).at' q).len;rw[h i];refine U _ _ ?_ ?_
        .unfold Cl.node;split<;>first|rfl|exact Pl
        .intro i';unfold Cl.node;split<;>first|rfl|(cases i'<;>rfl)
      intro q t d xs a b;exact gen q _ _ rfl λ_=>rfl
     exact E q t0 d0 ys _ _
    .rw[e]
   .have:u≠i0\/k1≠k0:=by
     by_cases h:u=i0
     .right;intro h';exact J ⟨h,h'⟩
     .left;exact h
    show((((r'.cells u).getD k1 .dead).node r'.ro).at' q).len=((((r.cells u).getD k1 .dead).node r.ro).at' q).len;rw[Y u k1 this,Z]
end Go.Ve

