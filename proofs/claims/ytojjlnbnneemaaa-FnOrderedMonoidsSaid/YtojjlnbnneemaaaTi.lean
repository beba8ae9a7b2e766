/- The typed machine: stores. -/
import Derived.Test.YtojjlnbnneemaaaTh
set_option linter.all false
namespace Go.Ve
variable{r r':Ac}{c:Cl}{i k:Nat}
def VG:(t:Ty)->Nat->t.T->Nat->Cl->Option t.T
 |.pair a b,d,x,k,c=>bif Nat.blt k a.w then(match VG a d x.1 k c with
   |some y=>some (y,x.2)
   |none=>none)else(match VG b d x.2 (k-a.w) c with
   |some y=>some (x.1,y)
   |none=>none)
 |.unit,_,_,_,_=>none
 |.int n,d,_,k,c=>bif Nat.beq k 0 then DZ (.int n) d c else none
 |.bool,d,_,k,c=>bif Nat.beq k 0 then DZ .bool d c else none
 |.str,d,_,k,c=>bif Nat.beq k 0 then DZ .str d c else none
 |.sl t,d,_,k,c=>bif Nat.beq k 0 then DZ (.sl t) d c else none
 |.ptr t,d,_,k,c=>bif Nat.beq k 0 then DZ (.ptr t) d c else none
 |.clo g t,d,_,k,c=>bif Nat.beq k 0 then DZ (.clo g t) d c else none
 |.osl t,d,_,k,c=>bif Nat.beq k 0 then DZ (.osl t) d c else none
 |.mp a b,d,_,k,c=>bif Nat.beq k 0 then DZ (.mp a b) d c else none
def setT_v:∀(t:Ty) (d:Nat) (x:t.T) (k:Nat) (c:Cl) (y:t.T),VG t d x k c=some y->k<t.w/\Sub c.v0 ((tyV t d y).getD k .dead)/\∀j,j≠k->(tyV t d y).getD j .dead=(tyV t d x).getD j .dead:=by
 have e:∀(t:Ty) (d:Nat) (x:t.T) (k:Nat) (c:Cl) (y:t.T),t.one=true->(bif Nat.beq k 0 then DZ t d c else none)=some y->k<t.w/\Sub c.v0 ((tyV t d y).getD k .dead)/\∀j,j≠k->(tyV t d y).getD j .dead=(tyV t d x).getD j .dead:=by
  intro t d x k c y ho h;obtain⟨B,h⟩:=A7 h;have U:=bqE B;subst U;obtain⟨F,W⟩:=J1 h [];rw[BO ho,BO ho];refine⟨(by cases t<;>first|exact Nat.one_pos|cases ho),(by rw[<-W];exact F),λj J=>?_⟩
  cases j with
  |zero=>exact absurd rfl J
  |succ j=>rfl
 intro t
 induction t with
 |pair a b M L=>
  intro d x k c y h;unfold VG at h;cases B:Nat.blt k a.w with
  |true=>
   rw[B]at h;have B:k<a.w:=blE B;simp only[cond_true]at h;split at h
   case h_2=>cases h
   rename_i E F;cases h;obtain⟨g1,g2,O⟩:=M _ _ _ _ _ F;refine⟨by show k<a.w+b.w;omega,?_,λj J=>?_⟩
   .show Sub _ ((tyV a d E++tyV b d x.2).getD k .dead)
    rw[gDE,gAL (by rw[AB];exact B),<-gDE]
    exact g2
   .show(tyV a d E++tyV b d x.2).getD j .dead=(tyV a d x.1++tyV b d x.2).getD j .dead
    by_cases A:j<a.w
    .have:=O j J
     simp only[gDE]at this⊢;rw[gAL (by rw[AB];exact A),gAL (by rw[AB];exact A)]
     exact this
    .simp only[gDE]
     rw[gAR (by rw[AB];omega),gAR (by rw[AB];omega),AB,AB]
  |false=>
   rw[B]at h;have B:a.w<=k:=by
    rcases Nat.lt_or_ge k a.w with h'|h'
    .rw[show Nat.blt k a.w=true from Nat.ble_eq_true_of_le h']at B;cases B
    .exact h'
   simp only[cond_false]at h;split at h
   case h_2=>cases h
   rename_i E F;cases h;obtain⟨g1,g2,O⟩:=L _ _ _ _ _ F;refine⟨by show k<a.w+b.w;omega,?_,λj J=>?_⟩
   .show Sub _ ((tyV a d x.1++tyV b d E).getD k .dead)
    rw[gDE,gAR (by rw[AB];exact B),<-gDE,AB]
    exact g2
   .show(tyV a d x.1++tyV b d E).getD j .dead=(tyV a d x.1++tyV b d x.2).getD j .dead
    by_cases A:j<a.w
    .simp only[gDE]
     rw[gAL (by rw[AB];exact A),gAL (by rw[AB];exact A)]
    .have:=O (j-a.w) (by omega)
     simp only[gDE]at this⊢;rw[gAR (by rw[AB];omega),gAR (by rw[AB];omega),AB]
     exact this
 |unit=>intro d x k c y h;cases h
 |osl t _=>intro d x k c y h;exact e (.osl t) d x k c y rfl h
 |mp a b _ _=>intro d x k c y h;exact e (.mp a b) d x k c y rfl h
 |_=>intro d x k c y h;exact e _ d x k c y rfl h
def Ac.setCell:Ac->Nat->Nat->Cl->Option Ac
 |.obj ro l,i,k,c=>bif ro then none else match i with
  |0=>bif Nat.blt k l.length then some (.obj ro (l.set k c))else none
  |_+1=>none
 |.arr ro t d xs,i,k,c=>bif ro then none else match VG t d (AcB xs i t.dflt) k c with
  |some x=>some (.arr ro t d (setX xs i x))
  |none=>none
 |.dead,_,_,_=>none
 |.opt _ _ _ _,_,_,_=>none
 |.mp _ _ _ _,_,_,_=>none
def Ac.cl:Ac->Option Cl
 |.arr _ t d xs=>some (.c (.sl t) (d+1) xs)
 |_=>none
def Ac.setAt:Ac->AW->Nat->Nat->Cl->Option Ac
 |r,[],i,k,c=>r.setCell i k c
 |r,(i0,k0)::p,i,k,c=>match(((r.cells i0).getD k0 .dead).node r.ro).setAt p i k c with
  |some n=>match n.cl with
   |some c'=>r.setCell i0 k0 c'
   |none=>none
  |none=>none
def NK(h:r.setCell i k c=some r'){X:V}(L:Sub X c.v0):∃s sz n f,r.v=.nd s true sz n f/\Sub (.nd s true sz n λi' k'=>if i'=i/\k'=k then X else f i' k') r'.v:=by
 cases r with
 |dead=>cases h
 |opt=>cases h
 |mp=>cases h
 |obj ro l=>
  have h:(bif ro then none else match i with
   |0=>bif Nat.blt k l.length then some (Ac.obj ro (l.set k c))else none
   |_+1=>none)=some r':=h
  cases B:ro with
  |true=>rw[B]at h;cases h
  |false=>
   rw[B]at h;simp only[cond_false]at h;split at h
   case h_2=>cases h
   obtain⟨F,h⟩:=A7 h;have F:k<l.length:=blE F;cases h;refine⟨_,_,_,_,rfl,?_⟩;show Sub _ (Bi true ((l.set k c).map Cl.v0));unfold Bi;rw[List.length_map,List.length_map,List.length_set];refine⟨_,rfl,λi' k' J O=>?_⟩
   obtain rfl:i'=0:=by omega
   show Sub _ (((l.set k c).map Cl.v0).getD k' .dead)
   dsimp only
   rw[AG (f:=Cl.v0) (a:=.dead) rfl];by_cases A:k'=k
   .subst A
    rw[if_pos ⟨rfl,rfl⟩];simp only[gDE,List.getElem?_set_self F,Option.getD_some];exact L
   .rw[if_neg (λh=>A h.2)]
    refine Sub.of_eq ?_;show(l.map Cl.v0).getD k' .dead=_;rw[AG (f:=Cl.v0) (a:=.dead) rfl];simp only[gDE,List.getElem?_set_ne (Ne.symm A)]
 |arr ro t d xs=>
  have h:(bif ro then none else match VG t d (AcB xs i t.dflt) k c with
   |some x=>some (Ac.arr ro t d (setX xs i x))
   |none=>none)=some r':=h
  cases B:ro with
  |true=>rw[B]at h;cases h
  |false=>
   rw[B]at h;simp only[cond_false]at h;split at h
   case h_2=>cases h
   rename_i x M;cases h;obtain⟨g1,g2,U⟩:=setT_v _ _ _ _ _ _ M;refine⟨_,_,_,_,rfl,?_⟩;show Sub _ (arr true t.w (tyV t d) t.dflt (xs.set i x));unfold arr;rw[List.length_set];refine⟨_,rfl,λi' k' J O=>?_⟩
   show Sub _ ((tyV t d ((xs.set i x).getD i' t.dflt)).getD k' .dead)
   dsimp only
   by_cases E:i'=i
   .subst E
    have e:(xs.set i' x).getD i' t.dflt=x:=by simp[J]
    rw[e];by_cases A:k'=k
    .subst A
     rw[if_pos ⟨rfl,rfl⟩];exact L.trans g2
    .rw[if_neg (λh=>A h.2),U k' A]
     exact Sub.refl _
   .rw[if_neg (λh=>E h.1)]
    have e:(xs.set i x).getD i' t.dflt=xs.getD i' t.dflt:=by simp only[gDE,List.getElem?_set_ne (Ne.symm E)]
    rw[e];exact Sub.refl _
theorem cl_v{n:Ac}(h:n.cl=some c):c.v0=n.v/\c.node n.ro=n:=by
 unfold Ac.cl at h;split at h
 .cases h;trivial
 grind
theorem Qo{p:AW}(h:r.setAt p i k c=some r'):r≠.dead:=by
 rintro rfl
 cases p with
 |nil=>cases h
 |cons a p=>
  unfold Ac.setAt at h;split at h
  .split at h<;>cases h
  grind
theorem HM{i k:Nat}{c:Cl}{X:V}(J:Sub X c.v0):∀(p:AW) (r r':Ac),r.setAt p i k c=some r'->Sub (upd (p++[(i,k)]) r.v X) r'.v
 |[],r,r',h=>by
  obtain⟨s,sz,n,f,A,F⟩:=NK h J;rw[A];exact F
 |(i0,k0)::p,r,r',h=>by
  unfold Ac.setAt at h;split at h
  case h_2=>cases h
  rename_i n hn;split at h
  case h_2=>cases h
  rename_i c' U;have M:=HM J p _ _ hn;have B:=Qo hn;obtain⟨W,_⟩:=cl_v U;obtain⟨s,sz,m,f,A,F⟩:=NK h (W▸M);have O:r.live=true:=by cases r<;>first|rfl|cases h
  obtain⟨Y,L,Z,f2,e,E,_⟩:=P5 r O;rw[A]at e;obtain⟨rfl,rfl,rfl,rfl⟩:=e;rw[A];show Sub (V.nd s true sz m λi' k'=>if i'=i0/\k'=k0 then upd (p++[(i,k)]) (f i0 k0) X else f i' k') r'.v
  rw[E i0 k0,Z4 B]
  grind
def Iu(p:AW)(r r':Ac)(h:r.setAt p i k c=some r'):Sub (upd (p++[(i,k)]) r.v c.v0) r'.v:=HM (Sub.refl _) p r r' h
def UK:∀(t:Ty) (d:Nat) (x:t.T) (k:Nat) (c:Cl) (y:t.T),VG t d x k c=some y->∀j,j≠k->(AA t d y).getD j .dead=(AA t d x).getD j .dead:=by
 have e:∀(t:Ty) (d:Nat) (x:t.T) (k:Nat) (c:Cl) (y:t.T),t.one=true->(bif Nat.beq k 0 then DZ t d c else none)=some y->∀j,j≠k->(AA t d y).getD j .dead=(AA t d x).getD j .dead:=by
  intro t d x k c y ho h j L;cases B:Nat.beq k 0 with
  |false=>rw[B]at h;cases h
  |true=>
   have O:=bqE B;subst O;cases j with
   |zero=>exact absurd rfl L
   |succ j=>cases t<;>first|rfl|cases ho
 have len:∀(t:Ty) (d:Nat) (x:t.T),(AA t d x).length=t.w:=by
  intro t d x;have:=congrArg List.length (Bv t d x);rw[List.length_map,AB]at this;exact this
 intro t
 induction t with
 |pair a b J F=>
  intro d x k c y h j L;unfold VG at h;cases B:Nat.blt k a.w with
  |true=>
   rw[B]at h;simp only[cond_true]at h;split at h
   case h_2=>cases h
   rename_i E M;cases h;show(AA a d E++AA b d x.2).getD j .dead=(AA a d x.1++AA b d x.2).getD j .dead;by_cases A:j<a.w
   .have:=J _ _ _ _ _ M j L
    simp only[gDE]at this⊢;rw[gAL (by rw[len];exact A),gAL (by rw[len];exact A)]
    exact this
   .simp only[gDE]
    rw[gAR (by rw[len];omega),gAR (by rw[len];omega),len,len]
  |false=>
   rw[B]at h;have B:a.w<=k:=by
    rcases Nat.lt_or_ge k a.w with h'|h'
    .rw[show Nat.blt k a.w=true from Nat.ble_eq_true_of_le h']at B;cases B
    .exact h'
   simp only[cond_false]at h;split at h
   case h_2=>cases h
   rename_i E M;cases h;show(AA a d x.1++AA b d E).getD j .dead=(AA a d x.1++AA b d x.2).getD j .dead;by_cases A:j<a.w
   .simp only[gDE]
    rw[gAL (by rw[len];exact A),gAL (by rw[len];exact A)]
   .have:=F _ _ _ _ _ M (j-a.w) (by omega)
    simp only[gDE]at this⊢;rw[gAR (by rw[len];omega),gAR (by rw[len];omega),len]
    exact this
 |unit=>intro d x k c y h;cases h
 |osl t _=>intro d x k c y h;exact e (.osl t) d x k c y rfl h
 |mp a b _ _=>intro d x k c y h;exact e (.mp a b) d x k c y rfl h
 |_=>intro d x k c y h;exact e _ d x k c y rfl h
theorem HL(h:r.setCell i k c=some r'):r'.len=r.len/\r'.ro=r.ro/\∀A k1,(A≠i\/k1≠k)->(r'.cells A).getD k1 .dead=(r.cells A).getD k1 .dead:=by
 cases r with
 |dead=>cases h
 |opt=>cases h
 |mp=>cases h
 |obj ro l=>
  have h:(bif ro then none else match i with
   |0=>bif Nat.blt k l.length then some (Ac.obj ro (l.set k c))else none
   |_+1=>none)=some r':=h
  cases B:ro with
  |true=>rw[B]at h;cases h
  |false=>
   rw[B]at h;simp only[cond_false]at h;split at h
   case h_2=>cases h
   obtain⟨M,h⟩:=A7 h;cases h;refine⟨rfl,rfl,λA k1 hn=>?_⟩
   cases A with
   |succ A=>rfl
   |zero=>
    have F:k1≠k:=by rcases hn with h|h;exact absurd rfl h;exact h
    show(l.set k c).getD k1 .dead=l.getD k1 .dead;simp only[gDE,List.getElem?_set_ne (Ne.symm F)]
 |arr ro t d xs=>
  have h:(bif ro then none else match VG t d (AcB xs i t.dflt) k c with
   |some x=>some (Ac.arr ro t d (setX xs i x))
   |none=>none)=some r':=h
  cases B:ro with
  |true=>rw[B]at h;cases h
  |false=>
   rw[B]at h;simp only[cond_false]at h;split at h
   case h_2=>cases h
   rename_i x L;cases h;refine⟨by show(xs.set i x).length=xs.length;simp,rfl,λA k1 hn=>?_⟩
   show(AA t d ((xs.set i x).getD A t.dflt)).getD k1 .dead=(AA t d (xs.getD A t.dflt)).getD k1 .dead;by_cases J:A=i
   .subst J
    have F:k1≠k:=by rcases hn with h|h;exact absurd rfl h;exact h
    by_cases E:A<xs.length
    .have e:(xs.set A x).getD A t.dflt=x:=by simp[E]
     rw[e];exact UK _ _ _ _ _ _ L k1 F
    .rw[List.set_eq_of_length_le (by omega)]
   grind
def NL{t0:Ty}{d0:Nat}{ys:List t0.T}(h:r.setCell i k (.c (.sl t0) (d0+1) ys)=some r'):(r'.cells i).getD k .dead=.c (.sl t0) (d0+1) ys\/r'=r:=by
 have key:∀(t:Ty) (d:Nat) (x:t.T) (k:Nat) (y:t.T),VG t d x k (.c (.sl t0) (d0+1) ys)=some y->(AA t d y).getD k .dead=.c (.sl t0) (d0+1) ys:=by
  have B:∀(t:Ty) (d:Nat) (x:t.T) (k:Nat) (y:t.T),t.one=true->(bif Nat.beq k 0 then DZ t d (.c (.sl t0) (d0+1) ys)else none)=some y->(AA t d y).getD k .dead=.c (.sl t0) (d0+1) ys:=by
   intro t d x k y ho h;cases A:Nat.beq k 0 with
   |false=>rw[A]at h;cases h
   |true=>
    rw[A]at h;have Y:=bqE A;subst Y;simp only[cond_true]at h;unfold DZ at h;simp only at h;split at h
    case isFalse=>cases h
    rename_i W;subst W;obtain⟨hd,h⟩:=A7 h;cases h;unfold dOK at hd;have hd:d0+1=d:=bqE (by simpa [Ty.dep]using hd)
    subst hd;rfl
  have len:∀(t:Ty) (d:Nat) (x:t.T),(AA t d x).length=t.w:=by
   intro t d x;have:=congrArg List.length (Bv t d x);rw[List.length_map,AB]at this;exact this
  intro t
  induction t with
  |pair a b L J=>
   intro d x k y h;unfold VG at h;cases A:Nat.blt k a.w with
   |true=>
    rw[A]at h;have A:k<a.w:=blE A;simp only[cond_true]at h;split at h
    case h_2=>cases h
    rename_i F O;cases h;show(AA a d F++AA b d x.2).getD k .dead=_;rw[gDE,gAL (by rw[len];exact A),<-gDE]
    exact L _ _ _ _ O
   |false=>
    rw[A]at h;have A:a.w<=k:=by
     rcases Nat.lt_or_ge k a.w with h'|h'
     .rw[show Nat.blt k a.w=true from Nat.ble_eq_true_of_le h']at A;cases A
     .exact h'
    simp only[cond_false]at h;split at h
    case h_2=>cases h
    rename_i F O;cases h;show(AA a d x.1++AA b d F).getD k .dead=_;rw[gDE,gAR (by rw[len];exact A),<-gDE,len]
    exact J _ _ _ _ O
  |unit=>intro d x k y h;cases h
  |osl t _=>intro d x k y h;exact B (.osl t) d x k y rfl h
  |mp a b _ _=>intro d x k y h;exact B (.mp a b) d x k y rfl h
  |_=>intro d x k y h;exact B _ d x k y rfl h
 cases r with
 |dead=>cases h
 |opt=>cases h
 |mp=>cases h
 |obj ro l=>
  have h:(bif ro then none else match i with
   |0=>bif Nat.blt k l.length then some (Ac.obj ro (l.set k (.c (.sl t0) (d0+1) ys)))else none
   |_+1=>none)=some r':=h
  cases E:ro with
  |true=>rw[E]at h;cases h
  |false=>
   rw[E]at h;simp only[cond_false]at h;split at h
   case h_2=>cases h
   obtain⟨A,h⟩:=A7 h;have A:k<l.length:=blE A;cases h;left;show(l.set k _).getD k .dead=_;simp only[gDE,List.getElem?_set_self A,Option.getD_some]
 |arr ro t d xs=>
  have h:(bif ro then none else match VG t d (xs.getD i t.dflt) k (.c (.sl t0) (d0+1) ys)with
   |some x=>some (Ac.arr ro t d (xs.set i x))
   |none=>none)=some r':=h
  cases E:ro with
  |true=>rw[E]at h;cases h
  |false=>
   rw[E]at h;simp only[cond_false]at h;split at h
   case h_2=>cases h
   rename_i x U;cases h;by_cases M:i<xs.length
   .left
    show(AA t d ((xs.set i x).getD i t.dflt)).getD k .dead=_;have e:(xs.set i x).getD i t.dflt=x:=by simp[M]
    rw[e];exact key _ _ _ _ _ U
   .right
    rw[List.set_eq_of_length_le (by omega)]
def pre:List Nat->AW->Bool
 |[],_=>true
 |k::ks,(_,l)::q=>Nat.beq k l&&pre ks q
 |_::_,[]=>false
def Oi:∀{P q:AW},A1 P q=true->pre (P.map (·.2)) q=true
 |[],_,_=>rfl
 |(i,k)::P,(j,l)::q,h=>by
  simp[A1,beq_iff_eq]at h;obtain⟨⟨_,rfl⟩,h⟩:=h;simp[pre,Oi h]
 |_::_,[],h=>by cases h
def PV{a b:Bool}{t:Ty}{d:Nat}{x:Option (List t.T)}:(Ac.opt a t d x).len=(Ac.opt b t d x).len:=by cases x<;>rfl
def Ka{i k:Nat}{c:Cl}:∀(p:AW) (r r':Ac),r.setAt p i k c=some r'->∀q:AW,pre ((p++[(i,k)]).map (·.2)) q=false->(r'.at' q).len=(r.at' q).len
 |[],r,r',h,q,hq=>by
  obtain⟨Y,W,U⟩:=HL h;cases q with
  |nil=>exact Y
  |cons a q=>
   obtain⟨A,k1⟩:=a;have hk:k1≠k:=by
    rintro rfl
    simp[pre]at hq
   show((((r'.cells A).getD k1 .dead).node r'.ro).at' q).len=((((r.cells A).getD k1 .dead).node r.ro).at' q).len;rw[U A k1 (.inr hk),W]
 |(i0,k0)::p,r,r',h,q,hq=>by
  unfold Ac.setAt at h;split at h
  case h_2=>cases h
  rename_i n hn;split at h
  case h_2=>cases h
  rename_i c' L;obtain⟨Y,W,U⟩:=HL h;cases q with
  |nil=>exact Y
  |cons a q=>
   obtain⟨A,k1⟩:=a;by_cases J:A=i0/\k1=k0
   .obtain⟨rfl,rfl⟩:=J
    have O:pre ((p++[(i,k)]).map (·.2)) q=false:=by simpa [pre]using hq
    have M:=Ka p _ _ hn q O;show((((r'.cells A).getD k1 .dead).node r'.ro).at' q).len=((((r.cells A).getD k1 .dead).node r.ro).at' q).len;unfold Ac.cl at L;split at L
    case h_2=>cases L
    rename_i ro t0 d0 ys;cases L;rcases NL h with e|e
    .rw[e,<-M]
     -- the read-only mark does not matter
     have F:∀(q:AW) (t:Ty) (d:Nat) (xs:List t.T) (a b:Bool),((Ac.arr a t d xs).at' q).len=((Ac.arr b t d xs).at' q).len:=by
      have Z:∀(q:AW) (E B:Ac),E.len=B.len->(∀i,E.cells i=B.cells i)->(E.at' q).len=(B.at' q).len:=by
       intro q
       induction q with
       |nil=>intro E B h _;exact h
       |cons a q M=>
        intro E B _ h;obtain⟨i,k⟩:=a;show((((E.cells i).getD k .dead).node E.ro).at' q).len=((((B.cells i).getD k .dead).node B.ro).at' q).len;rw[h i];refine M _ _ ?_ ?_
        .unfold Cl.node;split<;>first|rfl|exact PV
        .intro i';unfold Cl.node;split<;>first|rfl|(cases i'<;>rfl)
      intro q t d xs a b;exact Z q _ _ rfl λ_=>rfl
     exact F q t0 d0 ys _ _
    .rw[e]
   .have:A≠i0\/k1≠k0:=by
     by_cases h:A=i0
     .right;intro h';exact J ⟨h,h'⟩
     .left;exact h
    show((((r'.cells A).getD k1 .dead).node r'.ro).at' q).len=((((r.cells A).getD k1 .dead).node r.ro).at' q).len;rw[U A k1 this,W]
end Go.Ve

