/- The typed machine: stores. -/
import Derived.Test.YteakdlfnmhlifaaTh
open Nat(blt beq lt_or_ge)
set_option linter.all false
namespace Go.Ve
variable{r r':Aa}{c:Cl}{i k:Nat}
def We:(t:Ty)->Nat->t.T->Nat->Cl->Option t.T
 |.pair a b,d,x,k,c=>bif blt k a.w then(match We a d x.1 k c with
   |some y=>some (y,x.2)
   |none=>none)else(match We b d x.2 (k-a.w) c with
   |some y=>some (x.1,y)
   |none=>none)
 |.unit,_,_,_,_=>none
 |.int n,d,_,k,c=>bif beq k 0 then DM (.int n) d c else none
 |.bool,d,_,k,c=>bif beq k 0 then DM .bool d c else none
 |.str,d,_,k,c=>bif beq k 0 then DM .str d c else none
 |.sl t,d,_,k,c=>bif beq k 0 then DM (.sl t) d c else none
 |.ptr t,d,_,k,c=>bif beq k 0 then DM (.ptr t) d c else none
 |.clo g t,d,_,k,c=>bif beq k 0 then DM (.clo g t) d c else none
 |.osl t,d,_,k,c=>bif beq k 0 then DM (.osl t) d c else none
 |.mp a b,d,_,k,c=>bif beq k 0 then DM (.mp a b) d c else none
def setT_v:∀(t:Ty) (d:Nat) (x:t.T) (k:Nat) (c:Cl) (y:t.T),We t d x k c=some y->k<t.w/\Sub c.v0 ((tyV t d y).getD k .dead)/\∀j,j≠k->(tyV t d y).getD j .dead=(tyV t d x).getD j .dead:=by
 have A:∀(t:Ty) (d:Nat) (x:t.T) (k:Nat) (c:Cl) (y:t.T),t.one=true->(bif beq k 0 then DM t d c else none)=some y->k<t.w/\Sub c.v0 ((tyV t d y).getD k .dead)/\∀j,j≠k->(tyV t d y).getD j .dead=(tyV t d x).getD j .dead:=by
  intro t d x k c y Z h;obtain⟨F,h⟩:=A1 h;have hk:=bqE F;subst hk;obtain⟨U,h2⟩:=J5 h [];rw[Bm Z,Bm Z];refine⟨(by cases t<;>first|exact Nat.one_pos|cases Z),(by rw[<-h2];exact U),λj hj=>?_⟩
  cases j with
  |zero=>exact absurd rfl hj
  |succ j=>rfl
 intro t
 induction t with
 |pair a b Y W=>
  intro d x k c y h;unfold We at h;cases F:blt k a.w with
  |true=>
   rw[F]at h;have F:k<a.w:=blE F;simp only[cond_true]at h;split at h
   case h_2=>cases h
   rename_i H U;cases h;obtain⟨g1,g2,g3⟩:=Y _ _ _ _ _ U;refine⟨by show k<a.w+b.w;omega,?_,λj hj=>?_⟩
   .show Sub _ ((tyV a d H++tyV b d x.2).getD k .dead)
    rw[gDE,gAL (by rw[Ax];exact F),<-gDE]
    exact g2
   .show(tyV a d H++tyV b d x.2).getD j .dead=(tyV a d x.1++tyV b d x.2).getD j .dead
    by_cases B:j<a.w
    .have:=g3 j hj
     simp only[gDE]at this⊢;rw[gAL (by rw[Ax];exact B),gAL (by rw[Ax];exact B)]
     exact this
    .simp only[gDE]
     rw[gAR (by rw[Ax];omega),gAR (by rw[Ax];omega),Ax,Ax]
  |false=>
   rw[F]at h;have F:a.w<=k:=by
    rcases lt_or_ge k a.w with h'|h'
    .rw[show blt k a.w=true from Nat.ble_eq_true_of_le h']at F;cases F
    .exact h'
   simp only[cond_false]at h;split at h
   case h_2=>cases h
   rename_i H U;cases h;obtain⟨g1,g2,g3⟩:=W _ _ _ _ _ U;refine⟨by show k<a.w+b.w;omega,?_,λj hj=>?_⟩
   .show Sub _ ((tyV a d x.1++tyV b d H).getD k .dead)
    rw[gDE,gAR (by rw[Ax];exact F),<-gDE,Ax]
    exact g2
   .show(tyV a d x.1++tyV b d H).getD j .dead=(tyV a d x.1++tyV b d x.2).getD j .dead
    by_cases B:j<a.w
    .simp only[gDE]
     rw[gAL (by rw[Ax];exact B),gAL (by rw[Ax];exact B)]
    .have:=g3 (j-a.w) (by omega)
     simp only[gDE]at this⊢;rw[gAR (by rw[Ax];omega),gAR (by rw[Ax];omega),Ax]
     exact this
 |unit=>intro d x k c y h;cases h
 |osl t _=>intro d x k c y h;exact A (.osl t) d x k c y rfl h
 |mp a b _ _=>intro d x k c y h;exact A (.mp a b) d x k c y rfl h
 |_=>intro d x k c y h;exact A _ d x k c y rfl h
def Aa.setCell:Aa->Nat->Nat->Cl->Option Aa
 |.obj ro l,i,k,c=>bif ro then none else match i with
  |0=>bif blt k l.length then some (.obj ro (l.set k c))else none
  |_+1=>none
 |.arr ro t d xs,i,k,c=>bif ro then none else match We t d (Ado xs i t.dflt) k c with
  |some x=>some (.arr ro t d (setX xs i x))
  |none=>none
 |.dead,_,_,_=>none
 |.opt _ _ _ _,_,_,_=>none
 |.mp _ _ _ _,_,_,_=>none
def Aa.cl:Aa->Option Cl
 |.arr _ t d xs=>some (.c (.sl t) (d+1) xs)
 |_=>none
def Aa.setAt:Aa->AI->Nat->Nat->Cl->Option Aa
 |r,[],i,k,c=>r.setCell i k c
 |r,(i0,k0)::p,i,k,c=>match(((r.cells i0).getD k0 .dead).node r.ro).setAt p i k c with
  |some n=>match n.cl with
   |some c'=>r.setCell i0 k0 c'
   |none=>none
  |none=>none
def N3(h:r.setCell i k c=some r'){X:V}(U:Sub X c.v0):∃s sz n f,r.v=.nd s true sz n f/\Sub (.nd s true sz n λi' k'=>if i'=i/\k'=k then X else f i' k') r'.v:=by
 cases r with
 |dead=>cases h
 |opt=>cases h
 |mp=>cases h
 |obj ro l=>
  have h:(bif ro then none else match i with
   |0=>bif blt k l.length then some (Aa.obj ro (l.set k c))else none
   |_+1=>none)=some r':=h
  cases B:ro with
  |true=>rw[B]at h;cases h
  |false=>
   rw[B]at h;simp only[cond_false]at h;split at h
   case h_2=>cases h
   obtain⟨H,h⟩:=A1 h;have H:k<l.length:=blE H;cases h;refine⟨_,_,_,_,rfl,?_⟩;show Sub _ (A3 true ((l.set k c).map Cl.v0));unfold A3;rw[List.length_map,List.length_map,List.length_set];refine⟨_,rfl,λi' k' hi Y=>?_⟩
   obtain rfl:i'=0:=by omega
   show Sub _ (((l.set k c).map Cl.v0).getD k' .dead)
   dsimp only
   rw[Aw (f:=Cl.v0) (a:=.dead) rfl];by_cases A:k'=k
   .subst A
    rw[if_pos ⟨rfl,rfl⟩];simp only[gDE,List.getElem?_set_self H,Option.getD_some];exact U
   .rw[if_neg (λh=>A h.2)]
    refine Sub.of_eq ?_;show(l.map Cl.v0).getD k' .dead=_;rw[Aw (f:=Cl.v0) (a:=.dead) rfl];simp only[gDE,List.getElem?_set_ne (Ne.symm A)]
 |arr ro t d xs=>
  have h:(bif ro then none else match We t d (Ado xs i t.dflt) k c with
   |some x=>some (Aa.arr ro t d (setX xs i x))
   |none=>none)=some r':=h
  cases B:ro with
  |true=>rw[B]at h;cases h
  |false=>
   rw[B]at h;simp only[cond_false]at h;split at h
   case h_2=>cases h
   rename_i x W;cases h;obtain⟨g1,g2,Z⟩:=setT_v _ _ _ _ _ _ W;refine⟨_,_,_,_,rfl,?_⟩;show Sub _ (arr true t.w (tyV t d) t.dflt (xs.set i x));unfold arr;rw[List.length_set];refine⟨_,rfl,λi' k' hi Y=>?_⟩
   show Sub _ ((tyV t d ((xs.set i x).getD i' t.dflt)).getD k' .dead)
   dsimp only
   by_cases F:i'=i
   .subst F
    have e:(xs.set i' x).getD i' t.dflt=x:=by simp[hi]
    rw[e];by_cases A:k'=k
    .subst A
     rw[if_pos ⟨rfl,rfl⟩];exact U.trans g2
    .rw[if_neg (λh=>A h.2),Z k' A]
     exact Sub.refl _
   .rw[if_neg (λh=>F h.1)]
    have e:(xs.set i x).getD i' t.dflt=xs.getD i' t.dflt:=by simp only[gDE,List.getElem?_set_ne (Ne.symm F)]
    rw[e];exact Sub.refl _
theorem cl_v{n:Aa}(h:n.cl=some c):c.v0=n.v/\c.node n.ro=n:=by
 unfold Aa.cl at h;split at h
 .cases h;trivial
 grind
theorem ME{p:AI}(h:r.setAt p i k c=some r'):r≠.dead:=by
 rintro rfl
 cases p with
 |nil=>cases h
 |cons a p=>
  unfold Aa.setAt at h;split at h
  .split at h<;>cases h
  grind
theorem HD{i k:Nat}{c:Cl}{X:V}(W:Sub X c.v0):∀(p:AI) (r r':Aa),r.setAt p i k c=some r'->Sub (upd (p++[(i,k)]) r.v X) r'.v
 |[],r,r',h=>by
  obtain⟨s,sz,n,f,hv,H⟩:=N3 h W;rw[hv];exact H
 |(i0,k0)::p,r,r',h=>by
  unfold Aa.setAt at h;split at h
  case h_2=>cases h
  rename_i n U;split at h
  case h_2=>cases h
  rename_i c' hc;have Z:=HD W p _ _ U;have B:=ME U;obtain⟨h1,_⟩:=cl_v hc;obtain⟨s,sz,m,f,hv,H⟩:=N3 h (h1▸Z);have hr:r.live=true:=by cases r<;>first|rfl|cases h
  obtain⟨s2,Y,m2,f2,A,F,_⟩:=Qj r hr;rw[hv]at A;obtain⟨rfl,rfl,rfl,rfl⟩:=A;rw[hv];show Sub (V.nd s true sz m λi' k'=>if i'=i0/\k'=k0 then upd (p++[(i,k)]) (f i0 k0) X else f i' k') r'.v
  rw[F i0 k0,AaX B]
  grind
def Iq(p:AI)(r r':Aa)(h:r.setAt p i k c=some r'):Sub (upd (p++[(i,k)]) r.v c.v0) r'.v:=HD (Sub.refl _) p r r' h
def Vk:∀(t:Ty) (d:Nat) (x:t.T) (k:Nat) (c:Cl) (y:t.T),We t d x k c=some y->∀j,j≠k->(Ar t d y).getD j .dead=(Ar t d x).getD j .dead:=by
 have A:∀(t:Ty) (d:Nat) (x:t.T) (k:Nat) (c:Cl) (y:t.T),t.one=true->(bif beq k 0 then DM t d c else none)=some y->∀j,j≠k->(Ar t d y).getD j .dead=(Ar t d x).getD j .dead:=by
  intro t d x k c y Z h j hj;cases F:beq k 0 with
  |false=>rw[F]at h;cases h
  |true=>
   have hk:=bqE F;subst hk;cases j with
   |zero=>exact absurd rfl hj
   |succ j=>cases t<;>first|rfl|cases Z
 have len:∀(t:Ty) (d:Nat) (x:t.T),(Ar t d x).length=t.w:=by
  intro t d x;have:=congrArg List.length (Br t d x);rw[List.length_map,Ax]at this;exact this
 intro t
 induction t with
 |pair a b W U=>
  intro d x k c y h j hj;unfold We at h;cases F:blt k a.w with
  |true=>
   rw[F]at h;simp only[cond_true]at h;split at h
   case h_2=>cases h
   rename_i H Y;cases h;show(Ar a d H++Ar b d x.2).getD j .dead=(Ar a d x.1++Ar b d x.2).getD j .dead;by_cases B:j<a.w
   .have:=W _ _ _ _ _ Y j hj
    simp only[gDE]at this⊢;rw[gAL (by rw[len];exact B),gAL (by rw[len];exact B)]
    exact this
   .simp only[gDE]
    rw[gAR (by rw[len];omega),gAR (by rw[len];omega),len,len]
  |false=>
   rw[F]at h;have F:a.w<=k:=by
    rcases lt_or_ge k a.w with h'|h'
    .rw[show blt k a.w=true from Nat.ble_eq_true_of_le h']at F;cases F
    .exact h'
   simp only[cond_false]at h;split at h
   case h_2=>cases h
   rename_i H Y;cases h;show(Ar a d x.1++Ar b d H).getD j .dead=(Ar a d x.1++Ar b d x.2).getD j .dead;by_cases B:j<a.w
   .simp only[gDE]
    rw[gAL (by rw[len];exact B),gAL (by rw[len];exact B)]
   .have:=U _ _ _ _ _ Y (j-a.w) (by omega)
    simp only[gDE]at this⊢;rw[gAR (by rw[len];omega),gAR (by rw[len];omega),len]
    exact this
 |unit=>intro d x k c y h;cases h
 |osl t _=>intro d x k c y h;exact A (.osl t) d x k c y rfl h
 |mp a b _ _=>intro d x k c y h;exact A (.mp a b) d x k c y rfl h
 |_=>intro d x k c y h;exact A _ d x k c y rfl h
theorem HC(h:r.setCell i k c=some r'):r'.len=r.len/\r'.ro=r.ro/\∀A k1,(A≠i\/k1≠k)->(r'.cells A).getD k1 .dead=(r.cells A).getD k1 .dead:=by
 cases r with
 |dead=>cases h
 |opt=>cases h
 |mp=>cases h
 |obj ro l=>
  have h:(bif ro then none else match i with
   |0=>bif blt k l.length then some (Aa.obj ro (l.set k c))else none
   |_+1=>none)=some r':=h
  cases B:ro with
  |true=>rw[B]at h;cases h
  |false=>
   rw[B]at h;simp only[cond_false]at h;split at h
   case h_2=>cases h
   obtain⟨Z,h⟩:=A1 h;cases h;refine⟨rfl,rfl,λA k1 F=>?_⟩
   cases A with
   |succ A=>rfl
   |zero=>
    have U:k1≠k:=by rcases F with h|h;exact absurd rfl h;exact h
    show(l.set k c).getD k1 .dead=l.getD k1 .dead;simp only[gDE,List.getElem?_set_ne (Ne.symm U)]
 |arr ro t d xs=>
  have h:(bif ro then none else match We t d (Ado xs i t.dflt) k c with
   |some x=>some (Aa.arr ro t d (setX xs i x))
   |none=>none)=some r':=h
  cases B:ro with
  |true=>rw[B]at h;cases h
  |false=>
   rw[B]at h;simp only[cond_false]at h;split at h
   case h_2=>cases h
   rename_i x Y;cases h;refine⟨by show(xs.set i x).length=xs.length;simp,rfl,λA k1 F=>?_⟩
   show(Ar t d ((xs.set i x).getD A t.dflt)).getD k1 .dead=(Ar t d (xs.getD A t.dflt)).getD k1 .dead;by_cases W:A=i
   .subst W
    have U:k1≠k:=by rcases F with h|h;exact absurd rfl h;exact h
    by_cases H:A<xs.length
    .have e:(xs.set A x).getD A t.dflt=x:=by simp[H]
     rw[e];exact Vk _ _ _ _ _ _ Y k1 U
    .rw[List.set_eq_of_length_le (by omega)]
   grind
def N5{t0:Ty}{d0:Nat}{ys:List t0.T}(h:r.setCell i k (.c (.sl t0) (d0+1) ys)=some r'):(r'.cells i).getD k .dead=.c (.sl t0) (d0+1) ys\/r'=r:=by
 have key:∀(t:Ty) (d:Nat) (x:t.T) (k:Nat) (y:t.T),We t d x k (.c (.sl t0) (d0+1) ys)=some y->(Ar t d y).getD k .dead=.c (.sl t0) (d0+1) ys:=by
  have B:∀(t:Ty) (d:Nat) (x:t.T) (k:Nat) (y:t.T),t.one=true->(bif beq k 0 then DM t d (.c (.sl t0) (d0+1) ys)else none)=some y->(Ar t d y).getD k .dead=.c (.sl t0) (d0+1) ys:=by
   intro t d x k y ho h;cases A:beq k 0 with
   |false=>rw[A]at h;cases h
   |true=>
    rw[A]at h;have hk:=bqE A;subst hk;simp only[cond_true]at h;unfold DM at h;simp only at h;split at h
    case isFalse=>cases h
    rename_i ht;subst ht;obtain⟨hd,h⟩:=A1 h;cases h;unfold dOK at hd;have hd:d0+1=d:=bqE (by simpa [Ty.dep]using hd)
    subst hd;rfl
  have len:∀(t:Ty) (d:Nat) (x:t.T),(Ar t d x).length=t.w:=by
   intro t d x;have:=congrArg List.length (Br t d x);rw[List.length_map,Ax]at this;exact this
  intro t
  induction t with
  |pair a b W U=>
   intro d x k y h;unfold We at h;cases A:blt k a.w with
   |true=>
    rw[A]at h;have A:k<a.w:=blE A;simp only[cond_true]at h;split at h
    case h_2=>cases h
    rename_i H Z;cases h;show(Ar a d H++Ar b d x.2).getD k .dead=_;rw[gDE,gAL (by rw[len];exact A),<-gDE]
    exact W _ _ _ _ Z
   |false=>
    rw[A]at h;have A:a.w<=k:=by
     rcases lt_or_ge k a.w with h'|h'
     .rw[show blt k a.w=true from Nat.ble_eq_true_of_le h']at A;cases A
     .exact h'
    simp only[cond_false]at h;split at h
    case h_2=>cases h
    rename_i H Z;cases h;show(Ar a d x.1++Ar b d H).getD k .dead=_;rw[gDE,gAR (by rw[len];exact A),<-gDE,len]
    exact U _ _ _ _ Z
  |unit=>intro d x k y h;cases h
  |osl t _=>intro d x k y h;exact B (.osl t) d x k y rfl h
  |mp a b _ _=>intro d x k y h;exact B (.mp a b) d x k y rfl h
  |_=>intro d x k y h;exact B _ d x k y rfl h
 cases r with
 |dead=>cases h
 |opt=>cases h
 |mp=>cases h
 |obj ro l=>
  have h:(bif ro then none else match i with
   |0=>bif blt k l.length then some (Aa.obj ro (l.set k (.c (.sl t0) (d0+1) ys)))else none
   |_+1=>none)=some r':=h
  cases F:ro with
  |true=>rw[F]at h;cases h
  |false=>
   rw[F]at h;simp only[cond_false]at h;split at h
   case h_2=>cases h
   obtain⟨A,h⟩:=A1 h;have A:k<l.length:=blE A;cases h;left;show(l.set k _).getD k .dead=_;simp only[gDE,List.getElem?_set_self A,Option.getD_some]
 |arr ro t d xs=>
  have h:(bif ro then none else match We t d (xs.getD i t.dflt) k (.c (.sl t0) (d0+1) ys)with
   |some x=>some (Aa.arr ro t d (xs.set i x))
   |none=>none)=some r':=h
  cases F:ro with
  |true=>rw[F]at h;cases h
  |false=>
   rw[F]at h;simp only[cond_false]at h;split at h
   case h_2=>cases h
   rename_i x hx;cases h;by_cases Y:i<xs.length
   .left
    show(Ar t d ((xs.set i x).getD i t.dflt)).getD k .dead=_;have e:(xs.set i x).getD i t.dflt=x:=by simp[Y]
    rw[e];exact key _ _ _ _ _ hx
   .right
    rw[List.set_eq_of_length_le (by omega)]
def pre:List Nat->AI->Bool
 |[],_=>true
 |k::ks,(_,l)::q=>beq k l&&pre ks q
 |_::_,[]=>false
def Lw:∀{P q:AI},AN P q=true->pre (P.map (·.2)) q=true
 |[],_,_=>rfl
 |(i,k)::P,(j,l)::q,h=>by
  simp[AN,beq_iff_eq]at h;obtain⟨⟨_,rfl⟩,h⟩:=h;simp[pre,Lw h]
 |_::_,[],h=>by cases h
def Qa{a b:Bool}{t:Ty}{d:Nat}{x:Option (List t.T)}:(Aa.opt a t d x).len=(Aa.opt b t d x).len:=by cases x<;>rfl
def Kf{i k:Nat}{c:Cl}:∀(p:AI) (r r':Aa),r.setAt p i k c=some r'->∀q:AI,pre ((p++[(i,k)]).map (·.2)) q=false->(r'.at' q).len=(r.at' q).len
 |[],r,r',h,q,hq=>by
  obtain⟨h1,h2,h3⟩:=HC h;cases q with
  |nil=>exact h1
  |cons a q=>
   obtain⟨A,k1⟩:=a;have hk:k1≠k:=by
    rintro rfl
    simp[pre]at hq
   show((((r'.cells A).getD k1 .dead).node r'.ro).at' q).len=((((r.cells A).getD k1 .dead).node r.ro).at' q).len;rw[h3 A k1 (.inr hk),h2]
 |(i0,k0)::p,r,r',h,q,hq=>by
  unfold Aa.setAt at h;split at h
  case h_2=>cases h
  rename_i n hn;split at h
  case h_2=>cases h
  rename_i c' W;obtain⟨h1,h2,h3⟩:=HC h;cases q with
  |nil=>exact h1
  |cons a q=>
   obtain⟨A,k1⟩:=a;by_cases U:A=i0/\k1=k0
   .obtain⟨rfl,rfl⟩:=U
    have Z:pre ((p++[(i,k)]).map (·.2)) q=false:=by simpa [pre]using hq
    have Y:=Kf p _ _ hn q Z;show((((r'.cells A).getD k1 .dead).node r'.ro).at' q).len=((((r.cells A).getD k1 .dead).node r.ro).at' q).len;unfold Aa.cl at W;split at W
    case h_2=>cases W
    rename_i ro t0 d0 ys;cases W;rcases N5 h with e|e
    .rw[e,<-Y]
     -- the read-only mark does not matter
     have H:∀(q:AI) (t:Ty) (d:Nat) (xs:List t.T) (a b:Bool),((Aa.arr a t d xs).at' q).len=((Aa.arr b t d xs).at' q).len:=by
      have gen:∀(q:AI) (F B:Aa),F.len=B.len->(∀i,F.cells i=B.cells i)->(F.at' q).len=(B.at' q).len:=by
       intro q
       induction q with
       |nil=>intro F B h _;exact h
       |cons a q Y=>
        intro F B _ h;obtain⟨i,k⟩:=a;show((((F.cells i).getD k .dead).node F.ro).at' q).len=((((B.cells i).getD k .dead).node B.ro).at' q).len;rw[h i];refine Y _ _ ?_ ?_
        .unfold Cl.node;split<;>first|rfl|exact Qa
        .intro i';unfold Cl.node;split<;>first|rfl|(cases i'<;>rfl)
      intro q t d xs a b;exact gen q _ _ rfl λ_=>rfl
     exact H q t0 d0 ys _ _
    .rw[e]
   .have:A≠i0\/k1≠k0:=by
     by_cases h:A=i0
     .right;intro h';exact U ⟨h,h'⟩
     .left;exact h
    show((((r'.cells A).getD k1 .dead).node r'.ro).at' q).len=((((r.cells A).getD k1 .dead).node r.ro).at' q).len;rw[h3 A k1 this,h2]
end Go.Ve

