/- The typed machine: stores. -/
import Derived.Test.YtmmmafnkggaknaaGreatTh
set_option linter.all false
namespace Go.Ve
variable{r r':Af}{c:Cl}{i k:Nat}
def Q5:(t:Ty)->Nat->t.T->Nat->Cl->Option t.T
 |.pair a b,d,x,k,c=>bif Nat.blt k a.w then(match Q5 a d x.1 k c with
   |some y=>some (y,x.2)
   |none=>none)else(match Q5 b d x.2 (k-a.w) c with
   |some y=>some (x.1,y)
   |none=>none)
 |.unit,_,_,_,_=>none
 |.int n,d,_,k,c=>bif Nat.beq k 0 then D7 (.int n) d c else none
 |.bool,d,_,k,c=>bif Nat.beq k 0 then D7 .bool d c else none
 |.str,d,_,k,c=>bif Nat.beq k 0 then D7 .str d c else none
 |.sl t,d,_,k,c=>bif Nat.beq k 0 then D7 (.sl t) d c else none
 |.ptr t,d,_,k,c=>bif Nat.beq k 0 then D7 (.ptr t) d c else none
 |.clo g t,d,_,k,c=>bif Nat.beq k 0 then D7 (.clo g t) d c else none
 |.osl t,d,_,k,c=>bif Nat.beq k 0 then D7 (.osl t) d c else none
def setT_v:∀(t:Ty) (d:Nat) (x:t.T) (k:Nat) (c:Cl) (y:t.T),Q5 t d x k c=some y->k<t.w/\Sub c.v0 ((tyV t d y).getD k .dead)/\∀j,j≠k->(tyV t d y).getD j .dead=(tyV t d x).getD j .dead:=by
 have A:∀(t:Ty) (d:Nat) (x:t.T) (k:Nat) (c:Cl) (y:t.T),t.one=true->(bif Nat.beq k 0 then D7 t d c else none)=some y->k<t.w/\Sub c.v0 ((tyV t d y).getD k .dead)/\∀j,j≠k->(tyV t d y).getD j .dead=(tyV t d x).getD j .dead:=by
  intro t d x k c y Z h;obtain⟨u,h⟩:=Bb h;have hk:=bqE u;subst hk;obtain⟨E,h2⟩:=Ln h [];rw[BM Z,BM Z];refine⟨(by cases t<;>first|exact Nat.one_pos|cases Z),(by rw[<-h2];exact E),λj J=>?_⟩
  cases j with
  |zero=>exact absurd rfl J
  |succ j=>rfl
 intro t
 induction t with
 |pair a b W U=>
  intro d x k c y h;unfold Q5 at h;cases u:Nat.blt k a.w with
  |true=>
   rw[u]at h;have u:k<a.w:=blE u;simp only[cond_true]at h;split at h
   case h_2=>cases h
   rename_i B E;cases h;obtain⟨g1,g2,g3⟩:=W _ _ _ _ _ E;refine⟨by show k<a.w+b.w;omega,?_,λj J=>?_⟩
   .show Sub _ ((tyV a d B++tyV b d x.2).getD k .dead)
    rw[gDE,gAL (by rw[Ay];exact u),<-gDE]
    exact g2
   .show(tyV a d B++tyV b d x.2).getD j .dead=(tyV a d x.1++tyV b d x.2).getD j .dead
    by_cases e:j<a.w
    .have:=g3 j J
     simp only[gDE]at this⊢;rw[gAL (by rw[Ay];exact e),gAL (by rw[Ay];exact e)]
     exact this
    .simp only[gDE]
     rw[gAR (by rw[Ay];omega),gAR (by rw[Ay];omega),Ay,Ay]
  |false=>
   rw[u]at h;have u:a.w<=k:=by
    rcases Nat.lt_or_ge k a.w with h'|h'
    .rw[show Nat.blt k a.w=true from Nat.ble_eq_true_of_le h']at u;cases u
    .exact h'
   simp only[cond_false]at h;split at h
   case h_2=>cases h
   rename_i B E;cases h;obtain⟨g1,g2,g3⟩:=U _ _ _ _ _ E;refine⟨by show k<a.w+b.w;omega,?_,λj J=>?_⟩
   .show Sub _ ((tyV a d x.1++tyV b d B).getD k .dead)
    rw[gDE,gAR (by rw[Ay];exact u),<-gDE,Ay]
    exact g2
   .show(tyV a d x.1++tyV b d B).getD j .dead=(tyV a d x.1++tyV b d x.2).getD j .dead
    by_cases e:j<a.w
    .simp only[gDE]
     rw[gAL (by rw[Ay];exact e),gAL (by rw[Ay];exact e)]
    .have:=g3 (j-a.w) (by omega)
     simp only[gDE]at this⊢;rw[gAR (by rw[Ay];omega),gAR (by rw[Ay];omega),Ay]
     exact this
 |unit=>intro d x k c y h;cases h
 |osl t _=>intro d x k c y h;exact A (.osl t) d x k c y rfl h
 |_=>intro d x k c y h;exact A _ d x k c y rfl h
def Af.setCell:Af->Nat->Nat->Cl->Option Af
 |.obj ro l,i,k,c=>bif ro then none else match i with
  |0=>bif Nat.blt k l.length then some (.obj ro (l.set k c))else none
  |_+1=>none
 |.arr ro t d xs,i,k,c=>bif ro then none else match Q5 t d (AaI xs i t.dflt) k c with
  |some x=>some (.arr ro t d (setX xs i x))
  |none=>none
 |.dead,_,_,_=>none
 |.opt _ _ _ _,_,_,_=>none
def Af.cl:Af->Option Cl
 |.arr _ t d xs=>some (.c (.sl t) (d+1) xs)
 |_=>none
def Af.setAt:Af->AZ->Nat->Nat->Cl->Option Af
 |r,[],i,k,c=>r.setCell i k c
 |r,(i0,k0)::p,i,k,c=>match(((r.cells i0).getD k0 .dead).node r.ro).setAt p i k c with
  |some n=>match n.cl with
   |some c'=>r.setCell i0 k0 c'
   |none=>none
  |none=>none
def Mt(h:r.setCell i k c=some r'){X:V}(U:Sub X c.v0):∃s sz n f,r.v=.nd s true sz n f/\Sub (.nd s true sz n λi' k'=>if i'=i/\k'=k then X else f i' k') r'.v:=by
 cases r with
 |dead=>cases h
 |opt=>cases h
 |obj ro l=>
  have h:(bif ro then none else match i with
   |0=>bif Nat.blt k l.length then some (Af.obj ro (l.set k c))else none
   |_+1=>none)=some r':=h
  cases A:ro with
  |true=>rw[A]at h;cases h
  |false=>
   rw[A]at h;simp only[cond_false]at h;split at h
   case h_2=>cases h
   obtain⟨E,h⟩:=Bb h;have E:k<l.length:=blE E;cases h;refine⟨_,_,_,_,rfl,?_⟩;show Sub _ (Bj true ((l.set k c).map Cl.v0));unfold Bj;rw[List.length_map,List.length_map,List.length_set];refine⟨_,rfl,λi' k' J Z=>?_⟩
   obtain rfl:i'=0:=by omega
   show Sub _ (((l.set k c).map Cl.v0).getD k' .dead)
   dsimp only
   rw[AN (f:=Cl.v0) (a:=.dead) rfl];by_cases u:k'=k
   .subst u
    rw[if_pos ⟨rfl,rfl⟩];simp only[gDE,List.getElem?_set_self E,Option.getD_some];exact U
   .rw[if_neg (λh=>u h.2)]
    refine Sub.of_eq ?_;show(l.map Cl.v0).getD k' .dead=_;rw[AN (f:=Cl.v0) (a:=.dead) rfl];simp only[gDE,List.getElem?_set_ne (Ne.symm u)]
 |arr ro t d xs=>
  have h:(bif ro then none else match Q5 t d (AaI xs i t.dflt) k c with
   |some x=>some (Af.arr ro t d (setX xs i x))
   |none=>none)=some r':=h
  cases A:ro with
  |true=>rw[A]at h;cases h
  |false=>
   rw[A]at h;simp only[cond_false]at h;split at h
   case h_2=>cases h
   rename_i x W;cases h;obtain⟨g1,g2,g3⟩:=setT_v _ _ _ _ _ _ W;refine⟨_,_,_,_,rfl,?_⟩;show Sub _ (arr true t.w (tyV t d) t.dflt (xs.set i x));unfold arr;rw[List.length_set];refine⟨_,rfl,λi' k' J Z=>?_⟩
   show Sub _ ((tyV t d ((xs.set i x).getD i' t.dflt)).getD k' .dead)
   dsimp only
   by_cases B:i'=i
   .subst B
    have e:(xs.set i' x).getD i' t.dflt=x:=by simp[J]
    rw[e];by_cases u:k'=k
    .subst u
     rw[if_pos ⟨rfl,rfl⟩];exact U.trans g2
    .rw[if_neg (λh=>u h.2),g3 k' u]
     exact Sub.refl _
   .rw[if_neg (λh=>B h.1)]
    have e:(xs.set i x).getD i' t.dflt=xs.getD i' t.dflt:=by simp only[gDE,List.getElem?_set_ne (Ne.symm B)]
    rw[e];exact Sub.refl _
theorem cl_v{n:Af}(h:n.cl=some c):c.v0=n.v/\c.node n.ro=n:=by
 unfold Af.cl at h;split at h
 .cases h;trivial
 grind
theorem OW{p:AZ}(h:r.setAt p i k c=some r'):r≠.dead:=by
 rintro rfl
 cases p with
 |nil=>cases h
 |cons a p=>
  unfold Af.setAt at h;split at h
  .split at h<;>cases h
  grind
theorem Hn{i k:Nat}{c:Cl}{X:V}(J:Sub X c.v0):∀(p:AZ) (r r':Af),r.setAt p i k c=some r'->Sub (upd (p++[(i,k)]) r.v X) r'.v
 |[],r,r',h=>by
  obtain⟨s,sz,n,f,u,hs⟩:=Mt h J;rw[u];exact hs
 |(i0,k0)::p,r,r',h=>by
  unfold Af.setAt at h;split at h
  case h_2=>cases h
  rename_i n E;split at h
  case h_2=>cases h
  rename_i c' hc;have W:=Hn J p _ _ E;have A:=OW E;obtain⟨h1,_⟩:=cl_v hc;obtain⟨s,sz,m,f,u,hs⟩:=Mt h (h1▸W);have Z:r.live=true:=by cases r<;>first|rfl|cases h
  obtain⟨s2,U,m2,f2,e,B,_⟩:=OC r Z;rw[u]at e;obtain⟨rfl,rfl,rfl,rfl⟩:=e;rw[u];show Sub (V.nd s true sz m λi' k'=>if i'=i0/\k'=k0 then upd (p++[(i,k)]) (f i0 k0) X else f i' k') r'.v
  rw[B i0 k0,Yp A]
  grind
def Ld(p:AZ)(r r':Af)(h:r.setAt p i k c=some r'):Sub (upd (p++[(i,k)]) r.v c.v0) r'.v:=Hn (Sub.refl _) p r r' h
def Qc:∀(t:Ty) (d:Nat) (x:t.T) (k:Nat) (c:Cl) (y:t.T),Q5 t d x k c=some y->∀j,j≠k->(AB t d y).getD j .dead=(AB t d x).getD j .dead:=by
 have u:∀(t:Ty) (d:Nat) (x:t.T) (k:Nat) (c:Cl) (y:t.T),t.one=true->(bif Nat.beq k 0 then D7 t d c else none)=some y->∀j,j≠k->(AB t d y).getD j .dead=(AB t d x).getD j .dead:=by
  intro t d x k c y Z h j U;cases A:Nat.beq k 0 with
  |false=>rw[A]at h;cases h
  |true=>
   have hk:=bqE A;subst hk;cases j with
   |zero=>exact absurd rfl U
   |succ j=>cases t<;>first|rfl|cases Z
 have len:∀(t:Ty) (d:Nat) (x:t.T),(AB t d x).length=t.w:=by
  intro t d x;have:=congrArg List.length (BL t d x);rw[List.length_map,Ay]at this;exact this
 intro t
 induction t with
 |pair a b J E=>
  intro d x k c y h j U;unfold Q5 at h;cases A:Nat.blt k a.w with
  |true=>
   rw[A]at h;simp only[cond_true]at h;split at h
   case h_2=>cases h
   rename_i B W;cases h;show(AB a d B++AB b d x.2).getD j .dead=(AB a d x.1++AB b d x.2).getD j .dead;by_cases e:j<a.w
   .have:=J _ _ _ _ _ W j U
    simp only[gDE]at this⊢;rw[gAL (by rw[len];exact e),gAL (by rw[len];exact e)]
    exact this
   .simp only[gDE]
    rw[gAR (by rw[len];omega),gAR (by rw[len];omega),len,len]
  |false=>
   rw[A]at h;have A:a.w<=k:=by
    rcases Nat.lt_or_ge k a.w with h'|h'
    .rw[show Nat.blt k a.w=true from Nat.ble_eq_true_of_le h']at A;cases A
    .exact h'
   simp only[cond_false]at h;split at h
   case h_2=>cases h
   rename_i B W;cases h;show(AB a d x.1++AB b d B).getD j .dead=(AB a d x.1++AB b d x.2).getD j .dead;by_cases e:j<a.w
   .simp only[gDE]
    rw[gAL (by rw[len];exact e),gAL (by rw[len];exact e)]
   .have:=E _ _ _ _ _ W (j-a.w) (by omega)
    simp only[gDE]at this⊢;rw[gAR (by rw[len];omega),gAR (by rw[len];omega),len]
    exact this
 |unit=>intro d x k c y h;cases h
 |osl t _=>intro d x k c y h;exact u (.osl t) d x k c y rfl h
 |_=>intro d x k c y h;exact u _ d x k c y rfl h
theorem Hm(h:r.setCell i k c=some r'):r'.len=r.len/\r'.ro=r.ro/\∀u k1,(u≠i\/k1≠k)->(r'.cells u).getD k1 .dead=(r.cells u).getD k1 .dead:=by
 cases r with
 |dead=>cases h
 |opt=>cases h
 |obj ro l=>
  have h:(bif ro then none else match i with
   |0=>bif Nat.blt k l.length then some (Af.obj ro (l.set k c))else none
   |_+1=>none)=some r':=h
  cases A:ro with
  |true=>rw[A]at h;cases h
  |false=>
   rw[A]at h;simp only[cond_false]at h;split at h
   case h_2=>cases h
   obtain⟨Z,h⟩:=Bb h;cases h;refine⟨rfl,rfl,λu k1 B=>?_⟩
   cases u with
   |succ u=>rfl
   |zero=>
    have J:k1≠k:=by rcases B with h|h;exact absurd rfl h;exact h
    show(l.set k c).getD k1 .dead=l.getD k1 .dead;simp only[gDE,List.getElem?_set_ne (Ne.symm J)]
 |arr ro t d xs=>
  have h:(bif ro then none else match Q5 t d (AaI xs i t.dflt) k c with
   |some x=>some (Af.arr ro t d (setX xs i x))
   |none=>none)=some r':=h
  cases A:ro with
  |true=>rw[A]at h;cases h
  |false=>
   rw[A]at h;simp only[cond_false]at h;split at h
   case h_2=>cases h
   rename_i x W;cases h;refine⟨by show(xs.set i x).length=xs.length;simp,rfl,λu k1 B=>?_⟩
   show(AB t d ((xs.set i x).getD u t.dflt)).getD k1 .dead=(AB t d (xs.getD u t.dflt)).getD k1 .dead;by_cases U:u=i
   .subst U
    have J:k1≠k:=by rcases B with h|h;exact absurd rfl h;exact h
    by_cases E:u<xs.length
    .have e:(xs.set u x).getD u t.dflt=x:=by simp[E]
     rw[e];exact Qc _ _ _ _ _ _ W k1 J
    .rw[List.set_eq_of_length_le (by omega)]
   grind
def Mu{t0:Ty}{d0:Nat}{ys:List t0.T}(h:r.setCell i k (.c (.sl t0) (d0+1) ys)=some r'):(r'.cells i).getD k .dead=.c (.sl t0) (d0+1) ys\/r'=r:=by
 have J:∀(t:Ty) (d:Nat) (x:t.T) (k:Nat) (y:t.T),Q5 t d x k (.c (.sl t0) (d0+1) ys)=some y->(AB t d y).getD k .dead=.c (.sl t0) (d0+1) ys:=by
  have B:∀(t:Ty) (d:Nat) (x:t.T) (k:Nat) (y:t.T),t.one=true->(bif Nat.beq k 0 then D7 t d (.c (.sl t0) (d0+1) ys)else none)=some y->(AB t d y).getD k .dead=.c (.sl t0) (d0+1) ys:=by
   intro t d x k y ho h;cases u:Nat.beq k 0 with
   |false=>rw[u]at h;cases h
   |true=>
    rw[u]at h;have hk:=bqE u;subst hk;simp only[cond_true]at h;unfold D7 at h;simp only at h;split at h
    case isFalse=>cases h
    rename_i ht;subst ht;obtain⟨hd,h⟩:=Bb h;cases h;unfold dOK at hd;have hd:d0+1=d:=bqE (by simpa [Ty.dep]using hd)
    subst hd;rfl
  have len:∀(t:Ty) (d:Nat) (x:t.T),(AB t d x).length=t.w:=by
   intro t d x;have:=congrArg List.length (BL t d x);rw[List.length_map,Ay]at this;exact this
  intro t
  induction t with
  |pair a b W U=>
   intro d x k y h;unfold Q5 at h;cases u:Nat.blt k a.w with
   |true=>
    rw[u]at h;have u:k<a.w:=blE u;simp only[cond_true]at h;split at h
    case h_2=>cases h
    rename_i E h1;cases h;show(AB a d E++AB b d x.2).getD k .dead=_;rw[gDE,gAL (by rw[len];exact u),<-gDE]
    exact W _ _ _ _ h1
   |false=>
    rw[u]at h;have u:a.w<=k:=by
     rcases Nat.lt_or_ge k a.w with h'|h'
     .rw[show Nat.blt k a.w=true from Nat.ble_eq_true_of_le h']at u;cases u
     .exact h'
    simp only[cond_false]at h;split at h
    case h_2=>cases h
    rename_i E h1;cases h;show(AB a d x.1++AB b d E).getD k .dead=_;rw[gDE,gAR (by rw[len];exact u),<-gDE,len]
    exact U _ _ _ _ h1
  |unit=>intro d x k y h;cases h
  |osl t _=>intro d x k y h;exact B (.osl t) d x k y rfl h
  |_=>intro d x k y h;exact B _ d x k y rfl h
 cases r with
 |dead=>cases h
 |opt=>cases h
 |obj ro l=>
  have h:(bif ro then none else match i with
   |0=>bif Nat.blt k l.length then some (Af.obj ro (l.set k (.c (.sl t0) (d0+1) ys)))else none
   |_+1=>none)=some r':=h
  cases A:ro with
  |true=>rw[A]at h;cases h
  |false=>
   rw[A]at h;simp only[cond_false]at h;split at h
   case h_2=>cases h
   obtain⟨u,h⟩:=Bb h;have u:k<l.length:=blE u;cases h;left;show(l.set k _).getD k .dead=_;simp only[gDE,List.getElem?_set_self u,Option.getD_some]
 |arr ro t d xs=>
  have h:(bif ro then none else match Q5 t d (xs.getD i t.dflt) k (.c (.sl t0) (d0+1) ys)with
   |some x=>some (Af.arr ro t d (xs.set i x))
   |none=>none)=some r':=h
  cases A:ro with
  |true=>rw[A]at h;cases h
  |false=>
   rw[A]at h;simp only[cond_false]at h;split at h
   case h_2=>cases h
   rename_i x hx;cases h;by_cases Z:i<xs.length
   .left
    show(AB t d ((xs.set i x).getD i t.dflt)).getD k .dead=_;have e:(xs.set i x).getD i t.dflt=x:=by simp[Z]
    rw[e];exact J _ _ _ _ _ hx
   .right
    rw[List.set_eq_of_length_le (by omega)]
def pre:List Nat->AZ->Bool
 |[],_=>true
 |k::ks,(_,l)::q=>Nat.beq k l&&pre ks q
 |_::_,[]=>false
def MX:∀{P q:AZ},A9 P q=true->pre (P.map (·.2)) q=true
 |[],_,_=>rfl
 |(i,k)::P,(j,l)::q,h=>by
  simp[A9,beq_iff_eq]at h;obtain⟨⟨_,rfl⟩,h⟩:=h;simp[pre,MX h]
 |_::_,[],h=>by cases h
def On{a b:Bool}{t:Ty}{d:Nat}{x:Option (List t.T)}:(Af.opt a t d x).len=(Af.opt b t d x).len:=by cases x<;>rfl
def Kx{i k:Nat}{c:Cl}:∀(p:AZ) (r r':Af),r.setAt p i k c=some r'->∀q:AZ,pre ((p++[(i,k)]).map (·.2)) q=false->(r'.at' q).len=(r.at' q).len
 |[],r,r',h,q,hq=>by
  obtain⟨h1,h2,h3⟩:=Hm h;cases q with
  |nil=>exact h1
  |cons a q=>
   obtain⟨u,k1⟩:=a;have hk:k1≠k:=by
    rintro rfl
    simp[pre]at hq
   show((((r'.cells u).getD k1 .dead).node r'.ro).at' q).len=((((r.cells u).getD k1 .dead).node r.ro).at' q).len;rw[h3 u k1 (.inr hk),h2]
 |(i0,k0)::p,r,r',h,q,hq=>by
  unfold Af.setAt at h;split at h
  case h_2=>cases h
  rename_i n hn;split at h
  case h_2=>cases h
  rename_i c' U;obtain⟨h1,h2,h3⟩:=Hm h;cases q with
  |nil=>exact h1
  |cons a q=>
   obtain⟨u,k1⟩:=a;by_cases J:u=i0/\k1=k0
   .obtain⟨rfl,rfl⟩:=J
    have Z:pre ((p++[(i,k)]).map (·.2)) q=false:=by simpa [pre]using hq
    have W:=Kx p _ _ hn q Z;show((((r'.cells u).getD k1 .dead).node r'.ro).at' q).len=((((r.cells u).getD k1 .dead).node r.ro).at' q).len;unfold Af.cl at U;split at U
    case h_2=>cases U
    rename_i ro t0 d0 ys;cases U;rcases Mu h with e|e
    .rw[e,<-W]
     -- the read-only mark does not matter
     have E:∀(q:AZ) (t:Ty) (d:Nat) (xs:List t.T) (a b:Bool),((Af.arr a t d xs).at' q).len=((Af.arr b t d xs).at' q).len:=by
      have gen:∀(q:AZ) (B A:Af),B.len=A.len->(∀i,B.cells i=A.cells i)->(B.at' q).len=(A.at' q).len:=by
       intro q
       induction q with
       |nil=>intro B A h _;exact h
       |cons a q W=>
        intro B A _ h;obtain⟨i,k⟩:=a;show((((B.cells i).getD k .dead).node B.ro).at' q).len=((((A.cells i).getD k .dead).node A.ro).at' q).len;rw[h i];refine W _ _ ?_ ?_
        .unfold Cl.node;split<;>first|rfl|exact On
        .intro i';unfold Cl.node;split<;>first|rfl|(cases i'<;>rfl)
      intro q t d xs a b;exact gen q _ _ rfl λ_=>rfl
     exact E q t0 d0 ys _ _
    .rw[e]
   .have:u≠i0\/k1≠k0:=by
     by_cases h:u=i0
     .right;intro h';exact J ⟨h,h'⟩
     .left;exact h
    show((((r'.cells u).getD k1 .dead).node r'.ro).at' q).len=((((r.cells u).getD k1 .dead).node r.ro).at' q).len;rw[h3 u k1 this,h2]
end Go.Ve

