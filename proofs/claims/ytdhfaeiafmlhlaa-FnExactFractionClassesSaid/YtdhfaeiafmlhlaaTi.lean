/- The typed machine: stores. -/
import Derived.Test.YtdhfaeiafmlhlaaTh
set_option linter.all false
namespace Go.Ve
variable{r r':Ab}{c:Cl}{i k:Nat}
def Wo:(t:Ty)->Nat->t.T->Nat->Cl->Option t.T
 |.pair a b,d,x,k,c=>bif Nat.blt k a.w then(match Wo a d x.1 k c with
   |some y=>some (y,x.2)
   |none=>none)else(match Wo b d x.2 (k-a.w) c with
   |some y=>some (x.1,y)
   |none=>none)
 |.unit,_,_,_,_=>none
 |.int n,d,_,k,c=>bif Nat.beq k 0 then He (.int n) d c else none
 |.bool,d,_,k,c=>bif Nat.beq k 0 then He .bool d c else none
 |.str,d,_,k,c=>bif Nat.beq k 0 then He .str d c else none
 |.sl t,d,_,k,c=>bif Nat.beq k 0 then He (.sl t) d c else none
 |.ptr t,d,_,k,c=>bif Nat.beq k 0 then He (.ptr t) d c else none
 |.clo g t,d,_,k,c=>bif Nat.beq k 0 then He (.clo g t) d c else none
 |.osl t,d,_,k,c=>bif Nat.beq k 0 then He (.osl t) d c else none
 |.mp a b,d,_,k,c=>bif Nat.beq k 0 then He (.mp a b) d c else none
def setT_v:∀(t:Ty) (d:Nat) (x:t.T) (k:Nat) (c:Cl) (y:t.T),Wo t d x k c=some y->k<t.w/\Sub c.v0 ((tyV t d y).getD k .dead)/\∀j,j≠k->(tyV t d y).getD j .dead=(tyV t d x).getD j .dead:=by
 have e:∀(t:Ty) (d:Nat) (x:t.T) (k:Nat) (c:Cl) (y:t.T),t.one=true->(bif Nat.beq k 0 then He t d c else none)=some y->k<t.w/\Sub c.v0 ((tyV t d y).getD k .dead)/\∀j,j≠k->(tyV t d y).getD j .dead=(tyV t d x).getD j .dead:=by
  intro t d x k c y U h;obtain⟨B,h⟩:=A9 h;have Y:=bqE B;subst Y;obtain⟨F,Z⟩:=MS h [];rw[BL U,BL U];refine⟨(by cases t<;>first|exact Nat.one_pos|cases U),(by rw[<-Z];exact F),λj hj=>?_⟩
  cases j with
  |zero=>exact absurd rfl hj
  |succ j=>rfl
 intro t
 induction t with
 |pair a b O J=>
  intro d x k c y h;unfold Wo at h;cases B:Nat.blt k a.w with
  |true=>
   rw[B]at h;have B:k<a.w:=blE B;simp only[cond_true]at h;split at h
   case h_2=>cases h
   rename_i E F;cases h;obtain⟨g1,g2,W⟩:=O _ _ _ _ _ F;refine⟨by show k<a.w+b.w;omega,?_,λj hj=>?_⟩
   .show Sub _ ((tyV a d E++tyV b d x.2).getD k .dead)
    rw[gDE,gAL (by rw[Ay];exact B),<-gDE]
    exact g2
   .show(tyV a d E++tyV b d x.2).getD j .dead=(tyV a d x.1++tyV b d x.2).getD j .dead
    by_cases A:j<a.w
    .have:=W j hj
     simp only[gDE]at this⊢;rw[gAL (by rw[Ay];exact A),gAL (by rw[Ay];exact A)]
     exact this
    .simp only[gDE]
     rw[gAR (by rw[Ay];omega),gAR (by rw[Ay];omega),Ay,Ay]
  |false=>
   rw[B]at h;have B:a.w<=k:=by
    rcases Nat.lt_or_ge k a.w with h'|h'
    .rw[show Nat.blt k a.w=true from Nat.ble_eq_true_of_le h']at B;cases B
    .exact h'
   simp only[cond_false]at h;split at h
   case h_2=>cases h
   rename_i E F;cases h;obtain⟨g1,g2,W⟩:=J _ _ _ _ _ F;refine⟨by show k<a.w+b.w;omega,?_,λj hj=>?_⟩
   .show Sub _ ((tyV a d x.1++tyV b d E).getD k .dead)
    rw[gDE,gAR (by rw[Ay];exact B),<-gDE,Ay]
    exact g2
   .show(tyV a d x.1++tyV b d E).getD j .dead=(tyV a d x.1++tyV b d x.2).getD j .dead
    by_cases A:j<a.w
    .simp only[gDE]
     rw[gAL (by rw[Ay];exact A),gAL (by rw[Ay];exact A)]
    .have:=W (j-a.w) (by omega)
     simp only[gDE]at this⊢;rw[gAR (by rw[Ay];omega),gAR (by rw[Ay];omega),Ay]
     exact this
 |unit=>intro d x k c y h;cases h
 |osl t _=>intro d x k c y h;exact e (.osl t) d x k c y rfl h
 |mp a b _ _=>intro d x k c y h;exact e (.mp a b) d x k c y rfl h
 |_=>intro d x k c y h;exact e _ d x k c y rfl h
def Ab.setCell:Ab->Nat->Nat->Cl->Option Ab
 |.obj ro l,i,k,c=>bif ro then none else match i with
  |0=>bif Nat.blt k l.length then some (.obj ro (l.set k c))else none
  |_+1=>none
 |.arr ro t d xs,i,k,c=>bif ro then none else match Wo t d (Ac1 xs i t.dflt) k c with
  |some x=>some (.arr ro t d (setX xs i x))
  |none=>none
 |.dead,_,_,_=>none
 |.opt _ _ _ _,_,_,_=>none
 |.mp _ _ _ _,_,_,_=>none
def Ab.cl:Ab->Option Cl
 |.arr _ t d xs=>some (.c (.sl t) (d+1) xs)
 |_=>none
def Ab.setAt:Ab->AX->Nat->Nat->Cl->Option Ab
 |r,[],i,k,c=>r.setCell i k c
 |r,(i0,k0)::p,i,k,c=>match(((r.cells i0).getD k0 .dead).node r.ro).setAt p i k c with
  |some n=>match n.cl with
   |some c'=>r.setCell i0 k0 c'
   |none=>none
  |none=>none
def NZ(h:r.setCell i k c=some r'){X:V}(J:Sub X c.v0):∃s sz n f,r.v=.nd s true sz n f/\Sub (.nd s true sz n λi' k'=>if i'=i/\k'=k then X else f i' k') r'.v:=by
 cases r with
 |dead=>cases h
 |opt=>cases h
 |mp=>cases h
 |obj ro l=>
  have h:(bif ro then none else match i with
   |0=>bif Nat.blt k l.length then some (Ab.obj ro (l.set k c))else none
   |_+1=>none)=some r':=h
  cases B:ro with
  |true=>rw[B]at h;cases h
  |false=>
   rw[B]at h;simp only[cond_false]at h;split at h
   case h_2=>cases h
   obtain⟨F,h⟩:=A9 h;have F:k<l.length:=blE F;cases h;refine⟨_,_,_,_,rfl,?_⟩;show Sub _ (Be true ((l.set k c).map Cl.v0));unfold Be;rw[List.length_map,List.length_map,List.length_set];refine⟨_,rfl,λi' k' hi U=>?_⟩
   obtain rfl:i'=0:=by omega
   show Sub _ (((l.set k c).map Cl.v0).getD k' .dead)
   dsimp only
   rw[AE (f:=Cl.v0) (a:=.dead) rfl];by_cases A:k'=k
   .subst A
    rw[if_pos ⟨rfl,rfl⟩];simp only[gDE,List.getElem?_set_self F,Option.getD_some];exact J
   .rw[if_neg (λh=>A h.2)]
    refine Sub.of_eq ?_;show(l.map Cl.v0).getD k' .dead=_;rw[AE (f:=Cl.v0) (a:=.dead) rfl];simp only[gDE,List.getElem?_set_ne (Ne.symm A)]
 |arr ro t d xs=>
  have h:(bif ro then none else match Wo t d (Ac1 xs i t.dflt) k c with
   |some x=>some (Ab.arr ro t d (setX xs i x))
   |none=>none)=some r':=h
  cases B:ro with
  |true=>rw[B]at h;cases h
  |false=>
   rw[B]at h;simp only[cond_false]at h;split at h
   case h_2=>cases h
   rename_i x O;cases h;obtain⟨g1,g2,W⟩:=setT_v _ _ _ _ _ _ O;refine⟨_,_,_,_,rfl,?_⟩;show Sub _ (arr true t.w (tyV t d) t.dflt (xs.set i x));unfold arr;rw[List.length_set];refine⟨_,rfl,λi' k' hi U=>?_⟩
   show Sub _ ((tyV t d ((xs.set i x).getD i' t.dflt)).getD k' .dead)
   dsimp only
   by_cases E:i'=i
   .subst E
    have e:(xs.set i' x).getD i' t.dflt=x:=by simp[hi]
    rw[e];by_cases A:k'=k
    .subst A
     rw[if_pos ⟨rfl,rfl⟩];exact J.trans g2
    .rw[if_neg (λh=>A h.2),W k' A]
     exact Sub.refl _
   .rw[if_neg (λh=>E h.1)]
    have e:(xs.set i x).getD i' t.dflt=xs.getD i' t.dflt:=by simp only[gDE,List.getElem?_set_ne (Ne.symm E)]
    rw[e];exact Sub.refl _
theorem cl_v{n:Ab}(h:n.cl=some c):c.v0=n.v/\c.node n.ro=n:=by
 unfold Ab.cl at h;split at h
 .cases h;trivial
 grind
theorem MJ{p:AX}(h:r.setAt p i k c=some r'):r≠.dead:=by
 rintro rfl
 cases p with
 |nil=>cases h
 |cons a p=>
  unfold Ab.setAt at h;split at h
  .split at h<;>cases h
  grind
theorem HG{i k:Nat}{c:Cl}{X:V}(O:Sub X c.v0):∀(p:AX) (r r':Ab),r.setAt p i k c=some r'->Sub (upd (p++[(i,k)]) r.v X) r'.v
 |[],r,r',h=>by
  obtain⟨s,sz,n,f,A,F⟩:=NZ h O;rw[A];exact F
 |(i0,k0)::p,r,r',h=>by
  unfold Ab.setAt at h;split at h
  case h_2=>cases h
  rename_i n J;split at h
  case h_2=>cases h
  rename_i c' Z;have W:=HG O p _ _ J;have B:=MJ J;obtain⟨h1,_⟩:=cl_v Z;obtain⟨s,sz,m,f,A,F⟩:=NZ h (h1▸W);have Y:r.live=true:=by cases r<;>first|rfl|cases h
  obtain⟨s2,U,m2,f2,e,E,_⟩:=Qq r Y;rw[A]at e;obtain⟨rfl,rfl,rfl,rfl⟩:=e;rw[A];show Sub (V.nd s true sz m λi' k'=>if i'=i0/\k'=k0 then upd (p++[(i,k)]) (f i0 k0) X else f i' k') r'.v
  rw[E i0 k0,Aa6 B]
  grind
def JR(p:AX)(r r':Ab)(h:r.setAt p i k c=some r'):Sub (upd (p++[(i,k)]) r.v c.v0) r'.v:=HG (Sub.refl _) p r r' h
def Vo:∀(t:Ty) (d:Nat) (x:t.T) (k:Nat) (c:Cl) (y:t.T),Wo t d x k c=some y->∀j,j≠k->(As t d y).getD j .dead=(As t d x).getD j .dead:=by
 have e:∀(t:Ty) (d:Nat) (x:t.T) (k:Nat) (c:Cl) (y:t.T),t.one=true->(bif Nat.beq k 0 then He t d c else none)=some y->∀j,j≠k->(As t d y).getD j .dead=(As t d x).getD j .dead:=by
  intro t d x k c y U h j hj;cases B:Nat.beq k 0 with
  |false=>rw[B]at h;cases h
  |true=>
   have W:=bqE B;subst W;cases j with
   |zero=>exact absurd rfl hj
   |succ j=>cases t<;>first|rfl|cases U
 have len:∀(t:Ty) (d:Nat) (x:t.T),(As t d x).length=t.w:=by
  intro t d x;have:=congrArg List.length (BK t d x);rw[List.length_map,Ay]at this;exact this
 intro t
 induction t with
 |pair a b J F=>
  intro d x k c y h j hj;unfold Wo at h;cases B:Nat.blt k a.w with
  |true=>
   rw[B]at h;simp only[cond_true]at h;split at h
   case h_2=>cases h
   rename_i E O;cases h;show(As a d E++As b d x.2).getD j .dead=(As a d x.1++As b d x.2).getD j .dead;by_cases A:j<a.w
   .have:=J _ _ _ _ _ O j hj
    simp only[gDE]at this⊢;rw[gAL (by rw[len];exact A),gAL (by rw[len];exact A)]
    exact this
   .simp only[gDE]
    rw[gAR (by rw[len];omega),gAR (by rw[len];omega),len,len]
  |false=>
   rw[B]at h;have B:a.w<=k:=by
    rcases Nat.lt_or_ge k a.w with h'|h'
    .rw[show Nat.blt k a.w=true from Nat.ble_eq_true_of_le h']at B;cases B
    .exact h'
   simp only[cond_false]at h;split at h
   case h_2=>cases h
   rename_i E O;cases h;show(As a d x.1++As b d E).getD j .dead=(As a d x.1++As b d x.2).getD j .dead;by_cases A:j<a.w
   .simp only[gDE]
    rw[gAL (by rw[len];exact A),gAL (by rw[len];exact A)]
   .have:=F _ _ _ _ _ O (j-a.w) (by omega)
    simp only[gDE]at this⊢;rw[gAR (by rw[len];omega),gAR (by rw[len];omega),len]
    exact this
 |unit=>intro d x k c y h;cases h
 |osl t _=>intro d x k c y h;exact e (.osl t) d x k c y rfl h
 |mp a b _ _=>intro d x k c y h;exact e (.mp a b) d x k c y rfl h
 |_=>intro d x k c y h;exact e _ d x k c y rfl h
theorem HF(h:r.setCell i k c=some r'):r'.len=r.len/\r'.ro=r.ro/\∀A k1,(A≠i\/k1≠k)->(r'.cells A).getD k1 .dead=(r.cells A).getD k1 .dead:=by
 cases r with
 |dead=>cases h
 |opt=>cases h
 |mp=>cases h
 |obj ro l=>
  have h:(bif ro then none else match i with
   |0=>bif Nat.blt k l.length then some (Ab.obj ro (l.set k c))else none
   |_+1=>none)=some r':=h
  cases B:ro with
  |true=>rw[B]at h;cases h
  |false=>
   rw[B]at h;simp only[cond_false]at h;split at h
   case h_2=>cases h
   obtain⟨W,h⟩:=A9 h;cases h;refine⟨rfl,rfl,λA k1 E=>?_⟩
   cases A with
   |succ A=>rfl
   |zero=>
    have J:k1≠k:=by rcases E with h|h;exact absurd rfl h;exact h
    show(l.set k c).getD k1 .dead=l.getD k1 .dead;simp only[gDE,List.getElem?_set_ne (Ne.symm J)]
 |arr ro t d xs=>
  have h:(bif ro then none else match Wo t d (Ac1 xs i t.dflt) k c with
   |some x=>some (Ab.arr ro t d (setX xs i x))
   |none=>none)=some r':=h
  cases B:ro with
  |true=>rw[B]at h;cases h
  |false=>
   rw[B]at h;simp only[cond_false]at h;split at h
   case h_2=>cases h
   rename_i x U;cases h;refine⟨by show(xs.set i x).length=xs.length;simp,rfl,λA k1 E=>?_⟩
   show(As t d ((xs.set i x).getD A t.dflt)).getD k1 .dead=(As t d (xs.getD A t.dflt)).getD k1 .dead;by_cases O:A=i
   .subst O
    have J:k1≠k:=by rcases E with h|h;exact absurd rfl h;exact h
    by_cases F:A<xs.length
    .have e:(xs.set A x).getD A t.dflt=x:=by simp[F]
     rw[e];exact Vo _ _ _ _ _ _ U k1 J
    .rw[List.set_eq_of_length_le (by omega)]
   grind
def N1{t0:Ty}{d0:Nat}{ys:List t0.T}(h:r.setCell i k (.c (.sl t0) (d0+1) ys)=some r'):(r'.cells i).getD k .dead=.c (.sl t0) (d0+1) ys\/r'=r:=by
 have key:∀(t:Ty) (d:Nat) (x:t.T) (k:Nat) (y:t.T),Wo t d x k (.c (.sl t0) (d0+1) ys)=some y->(As t d y).getD k .dead=.c (.sl t0) (d0+1) ys:=by
  have B:∀(t:Ty) (d:Nat) (x:t.T) (k:Nat) (y:t.T),t.one=true->(bif Nat.beq k 0 then He t d (.c (.sl t0) (d0+1) ys)else none)=some y->(As t d y).getD k .dead=.c (.sl t0) (d0+1) ys:=by
   intro t d x k y ho h;cases A:Nat.beq k 0 with
   |false=>rw[A]at h;cases h
   |true=>
    rw[A]at h;have hk:=bqE A;subst hk;simp only[cond_true]at h;unfold He at h;simp only at h;split at h
    case isFalse=>cases h
    rename_i Z;subst Z;obtain⟨hd,h⟩:=A9 h;cases h;unfold dOK at hd;have hd:d0+1=d:=bqE (by simpa [Ty.dep]using hd)
    subst hd;rfl
  have len:∀(t:Ty) (d:Nat) (x:t.T),(As t d x).length=t.w:=by
   intro t d x;have:=congrArg List.length (BK t d x);rw[List.length_map,Ay]at this;exact this
  intro t
  induction t with
  |pair a b O J=>
   intro d x k y h;unfold Wo at h;cases A:Nat.blt k a.w with
   |true=>
    rw[A]at h;have A:k<a.w:=blE A;simp only[cond_true]at h;split at h
    case h_2=>cases h
    rename_i F W;cases h;show(As a d F++As b d x.2).getD k .dead=_;rw[gDE,gAL (by rw[len];exact A),<-gDE]
    exact O _ _ _ _ W
   |false=>
    rw[A]at h;have A:a.w<=k:=by
     rcases Nat.lt_or_ge k a.w with h'|h'
     .rw[show Nat.blt k a.w=true from Nat.ble_eq_true_of_le h']at A;cases A
     .exact h'
    simp only[cond_false]at h;split at h
    case h_2=>cases h
    rename_i F W;cases h;show(As a d x.1++As b d F).getD k .dead=_;rw[gDE,gAR (by rw[len];exact A),<-gDE,len]
    exact J _ _ _ _ W
  |unit=>intro d x k y h;cases h
  |osl t _=>intro d x k y h;exact B (.osl t) d x k y rfl h
  |mp a b _ _=>intro d x k y h;exact B (.mp a b) d x k y rfl h
  |_=>intro d x k y h;exact B _ d x k y rfl h
 cases r with
 |dead=>cases h
 |opt=>cases h
 |mp=>cases h
 |obj ro l=>
  have h:(bif ro then none else match i with
   |0=>bif Nat.blt k l.length then some (Ab.obj ro (l.set k (.c (.sl t0) (d0+1) ys)))else none
   |_+1=>none)=some r':=h
  cases E:ro with
  |true=>rw[E]at h;cases h
  |false=>
   rw[E]at h;simp only[cond_false]at h;split at h
   case h_2=>cases h
   obtain⟨A,h⟩:=A9 h;have A:k<l.length:=blE A;cases h;left;show(l.set k _).getD k .dead=_;simp only[gDE,List.getElem?_set_self A,Option.getD_some]
 |arr ro t d xs=>
  have h:(bif ro then none else match Wo t d (xs.getD i t.dflt) k (.c (.sl t0) (d0+1) ys)with
   |some x=>some (Ab.arr ro t d (xs.set i x))
   |none=>none)=some r':=h
  cases E:ro with
  |true=>rw[E]at h;cases h
  |false=>
   rw[E]at h;simp only[cond_false]at h;split at h
   case h_2=>cases h
   rename_i x Y;cases h;by_cases U:i<xs.length
   .left
    show(As t d ((xs.set i x).getD i t.dflt)).getD k .dead=_;have e:(xs.set i x).getD i t.dflt=x:=by simp[U]
    rw[e];exact key _ _ _ _ _ Y
   .right
    rw[List.set_eq_of_length_le (by omega)]
def pre:List Nat->AX->Bool
 |[],_=>true
 |k::ks,(_,l)::q=>Nat.beq k l&&pre ks q
 |_::_,[]=>false
def Ly:∀{P q:AX},AT P q=true->pre (P.map (·.2)) q=true
 |[],_,_=>rfl
 |(i,k)::P,(j,l)::q,h=>by
  simp[AT,beq_iff_eq]at h;obtain⟨⟨_,rfl⟩,h⟩:=h;simp[pre,Ly h]
 |_::_,[],h=>by cases h
def Qc{a b:Bool}{t:Ty}{d:Nat}{x:Option (List t.T)}:(Ab.opt a t d x).len=(Ab.opt b t d x).len:=by cases x<;>rfl
def Kg{i k:Nat}{c:Cl}:∀(p:AX) (r r':Ab),r.setAt p i k c=some r'->∀q:AX,pre ((p++[(i,k)]).map (·.2)) q=false->(r'.at' q).len=(r.at' q).len
 |[],r,r',h,q,hq=>by
  obtain⟨h1,Z,Y⟩:=HF h;cases q with
  |nil=>exact h1
  |cons a q=>
   obtain⟨A,k1⟩:=a;have hk:k1≠k:=by
    rintro rfl
    simp[pre]at hq
   show((((r'.cells A).getD k1 .dead).node r'.ro).at' q).len=((((r.cells A).getD k1 .dead).node r.ro).at' q).len;rw[Y A k1 (.inr hk),Z]
 |(i0,k0)::p,r,r',h,q,hq=>by
  unfold Ab.setAt at h;split at h
  case h_2=>cases h
  rename_i n hn;split at h
  case h_2=>cases h
  rename_i c' O;obtain⟨h1,Z,Y⟩:=HF h;cases q with
  |nil=>exact h1
  |cons a q=>
   obtain⟨A,k1⟩:=a;by_cases J:A=i0/\k1=k0
   .obtain⟨rfl,rfl⟩:=J
    have W:pre ((p++[(i,k)]).map (·.2)) q=false:=by simpa [pre]using hq
    have U:=Kg p _ _ hn q W;show((((r'.cells A).getD k1 .dead).node r'.ro).at' q).len=((((r.cells A).getD k1 .dead).node r.ro).at' q).len;unfold Ab.cl at O;split at O
    case h_2=>cases O
    rename_i ro t0 d0 ys;cases O;rcases N1 h with e|e
    .rw[e,<-U]
     -- the read-only mark does not matter
     have F:∀(q:AX) (t:Ty) (d:Nat) (xs:List t.T) (a b:Bool),((Ab.arr a t d xs).at' q).len=((Ab.arr b t d xs).at' q).len:=by
      have gen:∀(q:AX) (E B:Ab),E.len=B.len->(∀i,E.cells i=B.cells i)->(E.at' q).len=(B.at' q).len:=by
       intro q
       induction q with
       |nil=>intro E B h _;exact h
       |cons a q U=>
        intro E B _ h;obtain⟨i,k⟩:=a;show((((E.cells i).getD k .dead).node E.ro).at' q).len=((((B.cells i).getD k .dead).node B.ro).at' q).len;rw[h i];refine U _ _ ?_ ?_
        .unfold Cl.node;split<;>first|rfl|exact Qc
        .intro i';unfold Cl.node;split<;>first|rfl|(cases i'<;>rfl)
      intro q t d xs a b;exact gen q _ _ rfl λ_=>rfl
     exact F q t0 d0 ys _ _
    .rw[e]
   .have:A≠i0\/k1≠k0:=by
     by_cases h:A=i0
     .right;intro h';exact J ⟨h,h'⟩
     .left;exact h
    show((((r'.cells A).getD k1 .dead).node r'.ro).at' q).len=((((r.cells A).getD k1 .dead).node r.ro).at' q).len;rw[Y A k1 this,Z]
end Go.Ve

