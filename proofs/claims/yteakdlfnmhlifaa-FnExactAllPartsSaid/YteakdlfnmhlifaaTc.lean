/- The typed machine. -/
import Derived.Test.YteakdlfnmhlifaaTb
open Nat(ble blt beq)
open List(map_take map_drop map_cons)
set_option linter.all false
namespace Go.Ve
variable{ats:Array TypeId}{op:BinOp}{r:Bool}{va:List Value}{k n:Nat}{i x y:Operand}{P:Program}{a:TR}{t:TypeId}
structure Dy where
 t:Ty
 x:t.T
def IU(t:Ty)(y:Dy):Option t.T:=if h:y.t=t then some (h▸y.x)else none
theorem HG{t:Ty}{y:Dy}{x:t.T}(h:IU t y=some x):(⟨t,x⟩:Dy)=y:=by
 unfold IU at h;split at h
 .rename_i e;subst e;cases h;rfl
 grind
def Ty.one:Ty->Bool
 |.unit=>false
 |.pair _ _=>false
 |_=>true
def Bh{t:Ty}(h:t.one=true)(d:Nat)(x:t.T):tyV t d x=[cV t d x]:=by
 cases t<;>first|rfl|cases h
def DH:List Cl->Option Dy
 |[]=>some ⟨.unit,()⟩
 |y::l=>match y with
  |.c t _ x=>bif t.one then(match l with
   |[]=>some ⟨t,x⟩
   |_::_=>match DH l with
    |some ⟨u,e⟩=>some ⟨.pair t u,(x,e)⟩
    |none=>none)else none
  |_=>none
theorem Hc:∀(l:List Cl) (y:Dy),DH l=some y->tyV y.t 0 y.x=(l.map Cl.v0).map frz:=by
 intro l
 induction l with
 |nil=>intro y h;cases h;rfl
 |cons a l B=>
  intro y h;unfold DH at h;split at h
  case h_2=>cases h
  rename_i t d x;obtain⟨E,h⟩:=A1 h
  have e:[frz (cV t d x)]=tyV t 0 x:=by
   have:=Be t d x;rw[Bh E]at this;simpa using this
  split at h
  .cases h
   exact e.symm
  .rename_i b H
   split at h
   case h_2=>cases h
   rename_i A u F;cases h;show tyV t 0 x++tyV A 0 u=frz (cV t d x)::_;rw[B _ F,<-e];rfl
def Xj(s:St):Option TI->Nat->Option Sl->Option TR
 |some i,k,some (.one (.c (.ptr t) 0 x))=>
  match i.flds[k]? with
  |some (off,fs)=>match DH (((Aq t 0 x).drop off).take fs)with
   |some ⟨u,e⟩=>bif ble (off+fs) t.w then some (.ok (.one (.c (.ptr u) 0 e)))else none
   |none=>none
  |none=>none
 |some i,k,some (.one (.rp id p j k0))=>
  match i.flds[k]? with
  |some (off,_)=>bif(Ac s.r id p).live&&blt (k0+off) (Ac s.r id p).w then some (.ok (.one (.rp id p j (k0+off))))else none
  |none=>none
 |some i,k,some (.pk .bx l)=>
  match i.flds[k]? with
  |some (off,fs)=>bif ble (off+fs) l.length&& !((l.drop off).take fs).any Cl.own then some (.ok (.pk .bx ((l.drop off).take fs)))else none
  |none=>none
 |_,_,_=>none
def Iw(s:St):Option TI->Option Sl->Option Sl->Option TR
 |some i,some (.one (.c (.sl t) 0 xs)),some (.one (.c (.int _) _ n))=>
  bif beq t.w i.ty.w&&blt 0 i.ty.w then some (.cnd (0<=n/\n<ofN (H7 xs)) inferInstance (.one (.c (.ptr t) 0 (AdR xs (Lc n) t.dflt))))else none
 |some i,some (.one (.rf id p)),some (.one (.c (.int _) _ n))=>
  match Ac s.r id p with
  |.arr _ t _ xs=>bif beq t.w i.ty.w&&blt 0 i.ty.w then some (.cnd (0<=n/\n<ofN (H7 xs)) inferInstance (.one (.rp id p (Lc n) 0)))else none
  |_=>none
 |some i,some (.one (.rs id p off len)),some (.one (.c (.int _) _ n))=>
  match Ac s.r id p with
  |.arr _ t _ _=>bif beq t.w i.ty.w&&blt 0 i.ty.w then some (.cnd (0<=n/\n<ofN len) inferInstance (.one (.rp id p (off+Lc n) 0)))else none
  |_=>none
 |_,_,_=>none
def boolsL:List Cl->Option (List Bool)
 |[]=>some []
 |.c .bool _ b::l=>match boolsL l with
  |some bs=>some (b::bs)
  |none=>none
 |_=>none
def Xi(_:Option TI)(_ _:Option Sl):Option TR:=none
def tNil:Option Sl->Option TR
 |some (.one (.c (.ptr t) 0 x))=>some (.ok (.one (.c (.ptr t) 0 x)))
 |some (.one (.rp id p i k))=>some (.ok (.one (.rp id p i k)))
 |some (.pk .bx l)=>bif l.any Cl.own then none else some (.ok (.pk .bx l))
 |_=>none
def AbH:List Cl->List Cl->Option Bool
 |[],[]=>some true
 |.c (.int k) _ a::l,.c (.int k') _ b::m=>if k'=k then(match AbH l m with
  |some r=>some (AdW (eqI a b) r)
  |none=>none)else none
 |.c .bool _ a::l,.c .bool _ b::m=>match AbH l m with
  |some r=>some (AdW (eqB a b) r)
  |none=>none
 |.c .str _ a::l,.c .str _ b::m=>match AbH l m with
  |some r=>some (AdW (eqS a b) r)
  |none=>none
 |_,_=>none
def kCs:List Nat->List Cl->Bool
 |[],[]=>true
 |k::ks,.c (.int _) _ _::l=>beq k 0&&kCs ks l
 |k::ks,.c .bool _ _::l=>beq k 1&&kCs ks l
 |k::ks,.c .str _ _::l=>beq k 2&&kCs ks l
 |_,_=>false
def tEq(op:BinOp)(r:Bool):Option TR:=match op with
 |.eql=>some (.ok (.one (.c .bool 0 r)))
 |.neq=>some (.ok (.one (.c .bool 0 (notB r))))
 |_=>none
def tsh(op:BinOp)(k:IntKind)(a b:Int):Option TR:=match op with
 |.shl=>some (.cnd (0<=b) inferInstance (.one (.c (.int k) 0 (shlI k a b))))
 |.shr=>some (.cnd (0<=b) inferInstance (.one (.c (.int k) 0 (shrI k a b))))
 |_=>none
def tBin(i:Option TI)(op:BinOp):Option Sl->Option Sl->Option TR
 |some (.one (.c .bool _ a)),some (.one (.c .bool _ b))=>match i with
  |some i=>(match i.eq with
   |some ks=>bif(match ks with
     |[k]=>beq k 9
     |_=>false)then tEq op (eqB a b)else none
   |none=>none)
  |none=>none
 |some (.agg l),some (.agg m)=>match i with
  |some i=>(match i.eq with
   |some ks=>bif kCs ks l&&kCs ks m then(match AbH l m with
    |some r=>tEq op r
    |none=>none)else none
   |none=>none)
  |none=>none
 |some (.one (.c (.int k) _ a)),some (.one (.c (.int k') _ b))=>match tsh op k a b with
  |some r=>some r
  |none=>if k'=k then match op with
   |.and=>some (.ok (.one (.c (.int k) 0 (andI k a b))))
   |.andNot=>some (.ok (.one (.c (.int k) 0 (bncI k a b))))
   |.add=>some (.ok (.one (.c (.int k) 0 (k.wrap (a+b)))))
   |.sub=>some (.ok (.one (.c (.int k) 0 (k.wrap (a-b)))))
   |.mul=>some (.ok (.one (.c (.int k) 0 (k.wrap (a*b)))))
   |.quo=>some (.cnd (b≠0) inferInstance (.one (.c (.int k) 0 (k.wrap (a.tdiv b)))))
   |.rem=>some (.cnd (b≠0) inferInstance (.one (.c (.int k) 0 (a.tmod b))))
   |.eql=>some (.ok (.one (.c .bool 0 (eqI a b))))
   |.neq=>some (.ok (.one (.c .bool 0 (neI a b))))
   |.lss=>some (.ok (.one (.c .bool 0 (ltI a b))))
   |.leq=>some (.ok (.one (.c .bool 0 (leI a b))))
   |.gtr=>some (.ok (.one (.c .bool 0 (ltI b a))))
   |.geq=>some (.ok (.one (.c .bool 0 (leI b a))))
   |_=>none
  else none
 |some (.one (.c .str _ a)),some (.one (.c .str _ b))=>match op with
   |.add=>some (.cnd ((P4 a+P4 b:Nat)<=9223372036854775807) inferInstance (.one (.c .str 0 (catS a b))))
   |.eql=>some (.ok (.one (.c .bool 0 (eqS a b))))
   |.neq=>some (.ok (.one (.c .bool 0 (neS a b))))
   |.lss=>some (.ok (.one (.c .bool 0 (ltS a b))))
   |_=>none
 |some (.one (.c (.sl _) 0 xs)),some (.one .nil)=>match i with
  |some i=>bif !i.str&&i.elem.isSome then(match op with
   |.eql=>some (.cnd (0<H7 xs) inferInstance (.one (.c .bool 0 false)))
   |.neq=>some (.cnd (0<H7 xs) inferInstance (.one (.c .bool 0 true)))
   |_=>none)else none
  |none=>none
 |_,_=>none
def tUn(op:UnOp):Option Sl->Option TR
 |some (.one (.c .bool _ b))=>match op with
  |.not=>some (.ok (.one (.c .bool 0 (notB b))))
  |_=>none
 |some (.one (.c (.int k) _ n))=>match op with
  |.neg=>some (.ok (.one (.c (.int k) 0 (k.wrap (0-n)))))
  |_=>none
 |_=>none
def Acl(r:List Ab):Option TI->Option TI->Option TI->Option TI->Option Sl->Option TR
 |some _,some j,_,_,some (.one (.c (.int _) _ n))=>match j.ik with
  |some k=>some (.ok (.one (.c (.int k) 0 (k.wrap n))))
  |none=>none
 |_,_,_,_,_=>none
def ME(k:Nat):Option Sl->Option TR
 |some (.tup l)=>match l[k]? with
  |some (true,cs)=>bif cs.any Cl.own then none else some (.ok (.agg cs))
  |some (false,[c])=>bif c.own then none else some (.ok (.one c))
  |_=>none
 |_=>none
def slLen(s:St):Sl->Option Nat
 |.one (.c (.sl _) _ xs)=>some (H7 xs)
 |.one .nil=>some 0
 |.one (.rf id p)=>some (Ac s.r id p).len
 |.one (.rs _ _ _ len)=>some len
 |_=>none
def tLen(s:St):Option TI->Option Sl->Option TR
 |some i,some y=>bif i.str then(match y with
   |.one (.c .str _ b)=>some (.ok (.one (.c (.int .i64) 0 (ofN (P4 b)))))
   |_=>none)
  else bif i.elem.isSome then(match slLen s y with
   |some n=>some (.ok (.one (.c (.int .i64) 0 (ofN n))))
   |none=>none)
  else none
 |_,_=>none
def tMin:Option Sl->Option Sl->Option TR
 |some (.one (.c (.int k) _ x)),some (.one (.c (.int _) _ y))=>some (.ok (.one (.c (.int k) 0 (minI x y))))
 |_,_=>none
def tMax:Option Sl->Option Sl->Option TR
 |some (.one (.c (.int k) _ x)),some (.one (.c (.int _) _ y))=>some (.ok (.one (.c (.int k) 0 (maxI x y))))
 |_,_=>none
section sound
variable {P:Program}{Θ:Tab}{s:St}
theorem N5(B:Θ.OK P)(h:Xj s (Θ.look t) k (s.ev x)=some a):QS P s (.fieldAddr t x k) a.y:=by
 unfold Xj at h;split at h
 case h_4=>cases h
 .rename_i i O J hi F
  split at h
  case h_2=>cases h
  rename_i off fs H;split at h
  case h_2=>cases h
  rename_i t2 x2 hd;obtain⟨u,h⟩:=A1 h;have u:=blE u;cases h;show J6 (Wm P t _) (s.r.map Ab.v) (s.den.ev x) (SK s _);rw[B.fld hi H,Bd F];refine⟨by rw[Av];exact u,?_⟩
  have e:=Hc _ _ hd;rw[map_take,map_drop,Bs,map_take,map_drop,Be]at e;show Sub _ (A8 false (tyV t2 0 x2));rw[e];show Sub (V.nd false false fs 1 λi k=>([tyV O 0 J].getD i []).getD (off+k) .dead) (A8 false (((tyV O 0 J).drop off).take fs))
  unfold A8;have U:(((tyV O 0 J).drop off).take fs).length=fs:=by rw[List.length_take,List.length_drop,Av];omega
  rw[U];refine⟨_,rfl,λi' k' hi' W=>?_⟩
  obtain rfl:i'=0:=by omega
  refine Sub.of_eq ?_;simp[List.getElem?_take,W]
 .rename_i i id p j k0 hi F
  split at h
  case h_2=>cases h
  rename_i off fs H;obtain⟨u,h⟩:=A1 h;simp only[bAE]at u;cases h;show J6 (Wm P t _) (s.r.map Ab.v) (s.den.ev x) (SK s _);rw[B.fld hi H,Bd F];refine⟨by rw[Cg u.1];exact blE u.2,Sub.refl _⟩
 .rename_i i l hi F
  split at h
  case h_2=>cases h
  rename_i off fs H;obtain⟨u,h⟩:=A1 h;cases h;simp only[bAE,Bool.not_eq_true']at u;have Y:=blE u.1;show J6 (Wm P t _) (s.r.map Ab.v) (s.den.ev x) (SK s _);rw[B.fld hi H,Bd F];have U:((l.drop off).take fs).length=fs:=by simp;omega
  have A:∀k,k<fs->((l.drop off).take fs).getD k .dead=l.getD (off+k) .dead:=λk E=>by simp[List.getElem?_take,E]
  have Z:∀k,(l.map (Cl.v s.r)).getD (off+k) .dead=(l.getD (off+k) .dead).v s.r:=λk=>Az (f:=Cl.v s.r) (a:=.dead) rfl _ _
  show(off+fs<=(l.map (Cl.v s.r)).length/\((List.range fs).all λk=>!AK ((l.map (Cl.v s.r)).getD (off+k) .dead))=true)/\Sub (V.many .bx fs λk=>(l.map (Cl.v s.r)).getD (off+k) .dead) (boxL (((l.drop off).take fs).map (Cl.v s.r)))
  refine⟨⟨by simpa using Y,?_⟩,?_⟩
  .rw[aET]
   intro k E;have E:=List.mem_range.1 E;show(!AK ((l.map (Cl.v s.r)).getD (off+k) .dead))=true;rw[Z,Cl.own_v,<-A k E]
   have h2:=List.any_eq_false.1 u.2 (((l.drop off).take fs).getD k .dead) (by
    rw[gDE,gEE (by omega)]
    exact List.getElem_mem _)
   simpa using h2
  .show Sub _ (V.many .bx _ _)
   rw[List.length_map,U];refine⟨_,rfl,λk E=>Sub.of_eq ?_⟩
   show(l.map (Cl.v s.r)).getD (off+k) .dead=_;rw[Z,Az (f:=Cl.v s.r) (a:=.dead) rfl,A k E]
theorem IY{a b:Nat}{c:Bool}(h:(beq a b&&c)=true):a=b/\c=true:=by simp_all
theorem Ml(h:blt 0 n=true):0<n:=by simp_all
theorem Hd(u:Θ.OK P){j:TI}(h:((Θ.look t).bind (·.elem)).bind Θ.look=some j):∃e,slI P t=some ⟨e,j.ty.w,j.bytes,B2 j.ty⟩/\∃i,Θ.look t=some i/\i.elem=some e/\Θ.look e=some j:=by
 cases hi:Θ.look t with
 |none=>grind
 |some i=>
  rw[hi]at h;cases A:i.elem with
  |none=>grind
  |some e=>
   simp[A]at h;exact⟨e,u.elem hi A h,i,rfl,A,h⟩
theorem Ji(F:Θ.OK P)(h:Iw s (((Θ.look t).bind (·.elem)).bind Θ.look) (s.ev x) (s.ev i)=some a)(U:a.p):QS P s (.indexAddr t x i) a.y:=by
 unfold Iw at h;split at h
 case h_4=>cases h
 .rename_i j E xs _ _ n hj J hi
  obtain⟨e,u,_⟩:=Hd F hj;obtain⟨O,h⟩:=A1 h;cases h;obtain⟨H,A⟩:=IY O;have A:=Ml A;obtain⟨p1,p2⟩:0<=n/\n<xs.length:=U;show B5 (slI P t) (s.r.map Ab.v) (s.den.ev x) (s.den.ev i) (SK s _);rw[u,Bd J,Bd hi];refine⟨H,by rw[H];exact A,⟨p1,p2⟩,?_⟩
  show Sub (V.nd false false E.w 1 λ_ k=>(tyV E 0 (xs.getD n.toNat E.dflt)).getD k .dead) (A8 false (tyV E 0 (xs.getD n.toNat E.dflt)))
  unfold A8;rw[Av];refine⟨_,rfl,λi k hi _=>?_⟩
  obtain rfl:i=0:=by omega
  exact Sub.refl _
 .rename_i j id p _ _ n hj J hi
  obtain⟨e,u,_⟩:=Hd F hj;split at h
  case h_2=>cases h
  rename_i ro E d xs B;have W:Ac s.r id p≠.dead:=by rw[B];simp
  obtain⟨O,h⟩:=A1 h;cases h;obtain⟨H,A⟩:=IY O;have A:=Ml A;obtain⟨p1,p2⟩:0<=n/\n<xs.length:=U;show B5 (slI P t) (s.r.map Ab.v) (s.den.ev x) (s.den.ev i) (SK s _);rw[u,Bd J,Bd hi];have Y:(Ac s.r id p).len=xs.length:=by rw[B];rfl
  refine⟨by rw[Cg (by rw[B];rfl),B];exact H,A,⟨p1,by rw[Y];exact p2⟩,?_⟩
  show Sub (V.rp id p (0+n.toNat) 0) (V.rp id p n.toNat 0);rw[Nat.zero_add];exact Sub.refl _
 .rename_i j id p off len _ _ n hj J hi
  obtain⟨e,u,_⟩:=Hd F hj;split at h
  case h_2=>cases h
  rename_i ro E d xs B;have W:Ac s.r id p≠.dead:=by rw[B];simp
  obtain⟨O,h⟩:=A1 h;cases h;obtain⟨H,A⟩:=IY O;have A:=Ml A;show B5 (slI P t) (s.r.map Ab.v) (s.den.ev x) (s.den.ev i) (SK s _);rw[u,Bd J,Bd hi];exact⟨by rw[Cg (by rw[B];rfl),B];exact H,A,U,Sub.refl _⟩
def N3(e:Θ.OK P)(h:Xi (Θ.look t) (s.ev x) (s.ev i)=some a)(u:a.p):QS P s (.index t x i) a.y:=by
 unfold Xi at h;cases h
theorem Vu(h:tNil (s.ev x)=some a):QS P s (.nilCheck x) a.y:=by
 unfold tNil at h;split at h<;>try grind
 .rename_i e
  cases h;show AcD (s.den.ev x) (SK s _);rw[Bd e];exact Sub.refl _
 .rename_i e
  cases h;show AcD (s.den.ev x) (SK s _);rw[Bd e];rfl
 .rename_i l e
  cases u:l.any Cl.own with
  |true=>grind
  |false=>
   rw[u]at h;cases h;show AcD (s.den.ev x) (SK s _);rw[Bd e];refine⟨?_,Sub.refl _⟩;show AK (Sl.v s.r (.pk .bx l))=false;rw[Sl.own_v]
   trivial
theorem YC{l:List Cl}:∀{ks:List Nat},kCs ks l=true->ks≠[9]:=by
 rintro ks h rfl
 cases l with
 |nil=>cases h
 |cons y l=>
  cases y<;>try trivial
  rename_i t d x;cases t<;>cases h
def U1(r:List Ab):∀(ks:List Nat) (l m:List Cl) (z:Bool),kCs ks l=true->kCs ks m=true->AbH l m=some z->
  ∃va A:List Value,l.map (Cl.v r)=va.map V.c/\m.map (Cl.v r)=A.map V.c/\okL ks va A=true/\HI va A=z
 |[],[],[],z,_,_,h=>by cases h;exact⟨[],[],rfl,rfl,rfl,rfl⟩
 |[],[],_::_,_,_,h,_=>by cases h
 |[],_::_,_,_,h,_,_=>by cases h
 |_::_,[],_,_,h,_,_=>by cases h
 |_::_,_::_,[],_,_,h,_=>by cases h
 |k::ks,a::l,b::m,z,e,B,h=>by
  cases a<;>try (cases e;done)
  cases b<;>try (cases B;done)
  rename_i t d x Z d' u;cases t<;>try (cases e;done)
  .rename_i q
   cases Z<;>try (cases h;done)
   rename_i E
   have h:(if E=q then(match AbH l m with
    |some r=>some (AdW (eqI x u) r)
    |none=>none)else none)=some z:=h
   split at h
   case isFalse=>cases h
   rename_i hq;subst hq;split at h
   case h_2=>cases h
   rename_i F J;cases h;have e:(beq k 0&&kCs ks l)=true:=e;have B:(beq k 0&&kCs ks m)=true:=B;rw[bAE]at e B;obtain⟨va,A,Y,W,U,O⟩:=U1 r ks l m F e.2 B.2 J;have H:=bqE e.1;subst H;refine⟨.int E x::va,.int E u::A,?_,?_,?_,?_⟩
   .rw[map_cons,map_cons,Y];rfl
   .rw[map_cons,map_cons,W];rfl
   .show((kOf (.int E x)==some 0)&&(kOf (.int E u)==some 0)&&Cu (.int E x) (.int E u)&&okL ks va A)=true
    rw[U];simp[kOf,Cu]
   .show(vEq (.int E x) (.int E u)&&HI va A)=_
    rw[O];rfl
  .cases Z<;>try (cases h;done)
   have h:(match AbH l m with
    |some r=>some (AdW (eqB x u) r)
    |none=>none)=some z:=h
   split at h
   case h_2=>cases h
   rename_i F J;cases h;have e:(beq k 1&&kCs ks l)=true:=e;have B:(beq k 1&&kCs ks m)=true:=B;rw[bAE]at e B;obtain⟨va,A,Y,W,U,O⟩:=U1 r ks l m F e.2 B.2 J;have H:=bqE e.1;subst H;refine⟨.bool x::va,.bool u::A,?_,?_,?_,?_⟩
   .rw[map_cons,map_cons,Y];rfl
   .rw[map_cons,map_cons,W];rfl
   .show((kOf (.bool x)==some 1)&&(kOf (.bool u)==some 1)&&Cu (.bool x) (.bool u)&&okL ks va A)=true
    rw[U];simp[kOf,Cu]
   .show(vEq (.bool x) (.bool u)&&HI va A)=_
    rw[O];rfl
  .cases Z<;>try (cases h;done)
   have h:(match AbH l m with
    |some r=>some (AdW (eqS x u) r)
    |none=>none)=some z:=h
   split at h
   case h_2=>cases h
   rename_i F J;cases h;have e:(beq k 2&&kCs ks l)=true:=e;have B:(beq k 2&&kCs ks m)=true:=B;rw[bAE]at e B;obtain⟨va,A,Y,W,U,O⟩:=U1 r ks l m F e.2 B.2 J;have H:=bqE e.1;subst H;refine⟨.string x::va,.string u::A,?_,?_,?_,?_⟩
   .rw[map_cons,map_cons,Y];rfl
   .rw[map_cons,map_cons,W];rfl
   .show((kOf (.string x)==some 2)&&(kOf (.string u)==some 2)&&Cu (.string x) (.string u)&&okL ks va A)=true
    rw[U];simp[kOf,Cu]
   .show(vEq (.string x) (.string u)&&HI va A)=_
    rw[O];rfl
theorem Abn{D:Nat->Prop}{w:World}{R:V->Value->Prop}{cx:Value}{fp:Nat->Prop}(h:Rel D w R (Ag (va.map V.c)) cx fp):cx=.agg va.toArray:=by
 obtain⟨cs,F,e,u,A⟩:=h;subst e
 congr 1
 apply Array.ext
 .simp[u]
 .intro i H B
  have hi:=by simpa using B
  have:=A.1 i (by omega)
  have e:(va.map V.c).getD i .dead=.c va[i]:=by simp[hi]
  have this:Rel D w R ((va.map V.c).getD i .dead) (cs.getD i undef) (F i):=this;rw[e]at this;have E:=this.1
  simp_all
def KR{a b:Bool}{k:List Nat}(B:Nu P t=some [9])(h:(op=.eql/\r=(a==b))\/(op=.neq/\r= !(a==b))):Ip P op t x y (.c (.bool a)) (.c (.bool b)) (.c (.bool r)):=by
 intro w D R cx E A u;obtain⟨rfl,_⟩:=A;obtain⟨rfl,_⟩:=u;refine⟨.bool r,?_,rfl,rfl,λ_ h=>h⟩
 have e:=Ws w (a:=a) (b:=b) B;rcases h with⟨rfl,rfl⟩|⟨rfl,rfl⟩
 .simp[eqGuard,binOp,e]
 .simp[eqGuard,binOp,e]
def Mo{e:List Value}{ks:List Nat}(J:Nu P t=some ks)(H:ks≠[9])(F:okL ks va e=true)(h:(op=.eql/\r=HI va e)\/(op=.neq/\r= !HI va e)):Ip P op t x y (Ag (va.map V.c)) (Ag (e.map V.c)) (.c (.bool r)):=by
 intro w D R cx O A u;have A:=Abn A;have u:=Abn u;subst A;subst u;refine⟨.bool r,?_,rfl,rfl,λ_ h=>h⟩
 obtain⟨E,B⟩:=Pi w J H F;rcases h with⟨rfl,rfl⟩|⟨rfl,rfl⟩
 .simp[eqGuard,binOp,E,B]
 .simp[eqGuard,binOp,E,B]
def Mz(va:List Value):AK (Ag (va.map V.c))=false:=by
 rw[Xg,List.any_map,List.any_eq_false];simp[AK]
theorem Mn{sz:Nat}{f:Nat->Nat->V}(u:NP P t=.slice)(U:0<n)(J:(op=.eql/\r=false)\/(op=.neq/\r=true)):Ip P op t x y (.nd true false sz n f) (.c (.slice none 0 0)) (.c (.bool r)):=by
 intro w D R cx O H A;have B:∃e,P.underlying t=some (.slice e):=by
  unfold NP at u;split at u
  .cases u
  .exact⟨_,by assumption⟩
  .cases u
 obtain⟨e,B⟩:=B;rcases H with⟨W,_⟩|⟨b,o,cap,F,rfl,_⟩
 .omega
 have A:O=.slice none 0 0:=A.1;subst A;refine⟨.bool r,?_,rfl,rfl,λ_ h=>h⟩
 have E:(Op.equal t (.slice (some ⟨b,o,none⟩) n cap) (.slice none 0 0)).run P w=.ok false w:=by
  unfold Op.equal;rw[show Op.maxDepth=9999+1 from rfl]
  unfold Op.equalIn;simp[run_underlying B]
 rcases J with⟨rfl,rfl⟩|⟨rfl,rfl⟩
 .simp[Ay,eqGuard,binOp,E]
 .simp[Ay,eqGuard,binOp,E]
theorem VD{Θ:Tab}{s:St}(H:Θ.OK P){yt:TypeId}(h:tBin (Θ.look t) op (s.ev x) (s.ev y)=some a)(U:a.p):QS P s (.binOp op t x y yt) a.y:=by
 unfold tBin at h;split at h
 case h_6=>cases h
 rotate_left 4
 .rename_i t1 xs B A
  split at h
  case h_2=>cases h
  rename_i i hi;cases u:(!i.str&&i.elem.isSome)with
  |false=>rw[u]at h;cases h
  |true=>
   rw[u]at h;simp only[bAE,Bool.not_eq_true']at u;have W:NP P t=.slice:=by
    rw[H.ln hi,u.1];obtain⟨e,he⟩:=Option.isSome_iff_exists.1 u.2;rw[he];rfl
   simp only[cond_true]at h;show VV P op t x y (s.den.ev x) (s.den.ev y) (SK s _);rw[Bd B,Bd A];show ∃z,Ip P op t x y (.nd true false t1.w xs.length λi k=>(tyV t1 0 (xs.getD i t1.dflt)).getD k .dead) (.c (.slice none 0 0)) z/\_/\_/\SK s _ z
   split at h
   .cases h
    exact⟨.c (.bool false),Mn W U (.inl ⟨rfl,rfl⟩),rfl,rfl,Sub.refl _⟩
   .cases h
    exact⟨.c (.bool true),Mn W U (.inr ⟨rfl,rfl⟩),rfl,rfl,Sub.refl _⟩
   .cases h
 .rename_i _ F _ Y B A
  split at h
  case h_2=>cases h
  rename_i i hi;split at h
  case h_2=>cases h
  rename_i ks J;have O:Nu P t=some ks:=by rw[H.eq hi,J]
  obtain⟨u,h⟩:=A1 h;have e9:ks=[9]:=by
   split at u
   .rw[bqE u]
   .cases u
  subst e9;show VV P op t x y (s.den.ev x) (s.den.ev y) (SK s _);rw[Bd B,Bd A];show ∃z,Ip P op t x y (.c (.bool F)) (.c (.bool Y)) z/\_/\_/\SK s _ z;unfold tEq at h;simp only[cond_true]at h;split at h
  .cases h
   exact⟨.c (.bool (F==Y)),KR (k:=[]) O (.inl ⟨rfl,rfl⟩),rfl,rfl,Sub.refl _⟩
  .cases h
   exact⟨.c (.bool (!(F==Y))),KR (k:=[]) O (.inr ⟨rfl,rfl⟩),rfl,rfl,Sub.refl _⟩
  .cases h
 .rename_i l m B A
  split at h
  case h_2=>cases h
  rename_i i hi;split at h
  case h_2=>cases h
  rename_i ks J;have O:Nu P t=some ks:=by rw[H.eq hi,J]
  cases u:(kCs ks l&&kCs ks m)with
  |false=>rw[u]at h;cases h
  |true=>
   rw[u]at h;rw[bAE]at u;simp only[cond_true]at h;split at h
   case h_2=>cases h
   rename_i r E;obtain⟨va,vb,e1,e2,e3,Z⟩:=U1 s.r ks l m r u.1 u.2 E;show VV P op t x y (s.den.ev x) (s.den.ev y) (SK s _);rw[Bd B,Bd A];show ∃z,Ip P op t x y (Ag (l.map (Cl.v s.r))) (Ag (m.map (Cl.v s.r))) z/\AK (Ag (l.map (Cl.v s.r)))=false/\AK (Ag (m.map (Cl.v s.r)))=false/\SK s _ z;rw[e1,e2];unfold tEq at h;split at h
   .cases h
    exact⟨.c (.bool r),Mo O (YC u.1) e3 (.inl ⟨rfl,Z.symm⟩),Mz _,Mz _,Sub.refl _⟩
   .cases h
    exact⟨.c (.bool (!r)),Mo O (YC u.1) e3 (.inr ⟨rfl,by rw[Z]⟩),Mz _,Mz _,Sub.refl _⟩
   .cases h
 .rename_i k _ F k' _ b B A
  show VV P op t x y (s.den.ev x) (s.den.ev y) (SK s _);rw[Bd B,Bd A];show VV P op t x y (.c (.int k F)) (.c (.int k' b)) (SK s _);unfold VV Ab1;split at h
  .rename_i r E
   cases h;unfold tsh at E;split at E<;>cases E
   .exact⟨U,Sub.refl _⟩
   .exact⟨U,Sub.refl _⟩
  rename_i E;have hv:vsh op k F b=none:=by
   unfold tsh at E;unfold vsh;split at E<;>first|(cases E;done)|skip
   split<;>first|rfl|(exfalso;simp_all)
  split at h
  case isFalse=>cases h
  rename_i O;subst O;simp only[hv,if_true];split at h<;>first|(cases h;done)|(cases h;exact⟨trivial,Sub.refl _⟩)|(cases h;exact⟨U,Sub.refl _⟩)
 .rename_i _ F _ b B A
  show VV P op t x y (s.den.ev x) (s.den.ev y) (SK s _);rw[Bd B,Bd A];show VV P op t x y (.c (.string F)) (.c (.string b)) (SK s _);unfold VV Ab1;split at h<;>first|(cases h;done)|(cases h;exact⟨trivial,Sub.refl _⟩)|(cases h;exact⟨U,Sub.refl _⟩)
theorem W7{op:UnOp}(h:tUn op (s.ev x)=some a):QS P s (.unOp op t x) a.y:=by
 unfold tUn at h;split at h
 case h_3=>grind
 all_goals
  rename_i e;split at h<;>try grind
  cases h;show qUn _ (s.den.ev x) (SK s _);rw[Bd e];exact Sub.refl _
theorem P1(e:Θ.OK P){u v:TypeId}(h:Acl s.r (Θ.look u) (Θ.look v) (((Θ.look u).bind (·.elem)).bind Θ.look) (((Θ.look v).bind (·.elem)).bind Θ.look) (s.ev x)=some a)(O:a.p):QS P s (.convert u v x) a.y:=by
 unfold Acl at h
 have E:∀(t:TypeId) (i:TI),Θ.look t=some i->∃d,P.underlying t=some d:=by
  intro t i hi;have:=e.ty hi;unfold tyI at this;split at this
  .exact⟨_,by assumption⟩
  .cases this
 split at h
 case h_2=>cases h
 .rename_i i j _ _ _ _ n hi hj F
  split at h
  case h_2=>cases h
  rename_i k J;cases h;show Oz P (s.r.map Ab.v) u v (s.den.ev x) (SK s _);have A:cvI P u v=.int k:=by
   obtain⟨d,hd⟩:=E _ _ hi;have B:=e.ik hj;rw[J]at B;unfold ukI at B;split at B
   .rename_i k' H;cases B;unfold cvI;simp[hd,H]
   .cases B
  rw[X0 (by rw[A];intro h;cases h)]
  unfold VS;rw[A,Bd F];exact Sub.refl _
theorem K6(h:ME k (s.ev x)=some a):QS P s (.extract x k) a.y:=by
 unfold ME at h;split at h
 case h_2=>cases h
 rename_i l E
 have key:∀(p:Bool×List Cl),l[k]? =some p->k<(l.map λp=>if p.1 then Ag (p.2.map (Cl.v s.r))else(p.2.map (Cl.v s.r)).getD 0 .dead).length/\
   (l.map λp=>if p.1 then Ag (p.2.map (Cl.v s.r))else(p.2.map (Cl.v s.r)).getD 0 .dead).getD k .dead=if p.1 then Ag (p.2.map (Cl.v s.r))else(p.2.map (Cl.v s.r)).getD 0 .dead:=by
  grind
 split at h
 case h_3=>cases h
 .rename_i cs A
  obtain⟨B,u⟩:=key _ A;cases e:cs.any Cl.own with
  |true=>rw[e]at h;cases h
  |false=>
   rw[e]at h;cases h;show Cz (s.den.ev x) k (SK s _);rw[Bd E];refine⟨B,?_,?_⟩
   .show AK ((l.map _).getD k .dead)=false
    rw[u];show AK (Ag _)=false;rw[NK,e]
   .show SK s _ ((l.map _).getD k .dead)
    rw[u];exact Sub.refl _
 .rename_i c A
  obtain⟨B,u⟩:=key _ A;cases e:c.own with
  |true=>rw[e]at h;cases h
  |false=>
   rw[e]at h;cases h;show Cz (s.den.ev x) k (SK s _);rw[Bd E];refine⟨B,?_,?_⟩
   .show AK ((l.map _).getD k .dead)=false
    rw[u];show AK (c.v s.r)=false;rw[Cl.own_v,e]
   .show SK s _ ((l.map _).getD k .dead)
    rw[u];exact Sub.refl _
theorem VA(A:Θ.OK P)(h:tLen s (Θ.look t) (s.ev x)=some a):QS P s (.call ⟨.builtin .len,#[x],#[t]⟩) a.y:=by
 have u:∀y,(Ac4 (NP P t) (s.den.ev x)=true/\qLen (s.den.ev x) (SK s y))->QS P s (.call ⟨.builtin .len,#[x],#[t]⟩) y:=λy h=>.inl h
 unfold tLen at h;split at h
 case h_2=>cases h
 rename_i i y hi H;cases E:i.str with
 |true=>
  rw[E]at h;split at h
  .rename_i b
   cases h;refine u _ ?_;rw[Bd H,A.ln hi,E];exact⟨rfl,Sub.refl _⟩
  .cases h
 |false=>
  rw[E]at h;cases F:i.elem with
  |none=>rw[F]at h;cases h
  |some e=>
   rw[F]at h;simp only[cond_false,cond_true]at h;split at h
   .rename_i n B
    cases h;refine u _ ?_;rw[Bd H,A.ln hi,E,F];unfold slLen at B;split at B<;>first|(cases B;done)|(cases B;exact⟨rfl,Sub.refl _⟩)
   .cases h
theorem Vx(h:tMin (s.ev x) (s.ev y)=some a):QS P s (.call ⟨.builtin .min,#[x,y],ats⟩) a.y:=by
 unfold tMin at h;split at h<;>try grind
 rename_i u e;cases h;show DT .min (s.den.ev x) (s.den.ev y) (SK s _);rw[Bd u,Bd e];exact Sub.refl _
theorem Vy(h:tMax (s.ev x) (s.ev y)=some a):QS P s (.call ⟨.builtin .max,#[x,y],ats⟩) a.y:=by
 unfold tMax at h;split at h<;>try grind
 rename_i u e;cases h;show DT .max (s.den.ev x) (s.den.ev y) (SK s _);rw[Bd u,Bd e];exact Sub.refl _
end sound
end Go.Ve


namespace Go.Ve
variable{r:List Ab}{x:Operand}{y:Option Sl}{a:TR}{k v:Ty}{t:TypeId}
def keyD(k:Ty):Option Sl->Option k.T
 |some (.one (.c t _ x))=>bif Dm k then none else IU k ⟨t,x⟩
 |some (.agg l)=>bif Dm k then(match DH l with
  |some y=>IU k y
  |none=>none)else none
 |_=>none
theorem flatK:∀(l:List Cl) (y:Dy),DH l=some y->Jc y.t=true->l.map (Cl.v r)=(AU y.t y.x).map V.c:=by
 have u:∀(t:Ty) (d:Nat) (x:t.T),t.one=true->Jc t=true->[(Cl.c t d x).v r]=(AU t x).map V.c:=by
  intro t d x U O;cases t<;>first|rfl|(cases U;done)|(cases O;done)
 intro l
 induction l with
 |nil=>intro y h _;cases h;rfl
 |cons a l H=>
  intro y h A;unfold DH at h;split at h
  case h_2=>cases h
  rename_i t d x;obtain⟨F,h⟩:=A1 h;split at h
  .cases h
   exact u t d x F A
  .rename_i b W
   split at h
   case h_2=>cases h
   rename_i B E J;cases h;have A:(Jc t&&Jc B)=true:=A;rw[bAE]at A;have e:AU (.pair t B) (x,E)=AU t x++AU B E:=by simp[AU,tyV]
   rw[e,List.map_append,<-u t d x F A.1,<-H _ J A.2];rfl
theorem Yz{x:k.T}(u:Jc k=true)(h:keyD k y=some x):∃s,y=some s/\Abx (s.v r)=some (DI k x):=by
 unfold keyD at h;split at h
 case h_3=>cases h
 .rename_i t d E
  cases e:Dm k with
  |true=>rw[e]at h;cases h
  |false=>
   rw[e]at h;have h:=HG h;cases h;refine⟨_,rfl,?_⟩;cases k<;>first|rfl|(cases e;done)|(cases u;done)
 .rename_i l
  cases e:Dm k with
  |false=>rw[e]at h;cases h
  |true=>
   rw[e]at h;simp only[cond_true]at h;split at h
   case h_2=>cases h
   rename_i B A;have h:=HG h;cases h;refine⟨_,rfl,?_⟩;show Abx (Ag (l.map (Cl.v r)))=_;rw[flatK l _ A u,Yy];unfold DI;rw[e];rfl
def entD(r:List Ab)(k v:Ty):Option Sl->Option (List (k.T×v.T))
 |some (.one (.rm id p))=>match Ac r id p with
  |.mp _ k' v' xs=>IU (.mp k v) ⟨.mp k' v',xs⟩
  |_=>none
 |some (.one (.c (.mp k' v') _ xs))=>IU (.mp k v) ⟨.mp k' v',xs⟩
 |_=>none
def AbI{xs:List (k.T×v.T)}(h:entD r k v y=some xs):∃s,y=some s/\AdT (r.map Ab.v) (s.v r)=some (QI k v xs):=by
 unfold entD at h;split at h
 case h_3=>cases h
 .rename_i id p
  split at h
  case h_2=>cases h
  rename_i ro k' v' u e;have h:=HG h;cases h;refine⟨_,rfl,?_⟩
  show(match sub p ((r.map Ab.v).getD id .dead)with
   |.mp true l=>some l
   |_=>none)=_
  rw[AS (by rw[e];simp),e]
  rfl
 .have h:=HG h
  cases h;exact⟨_,rfl,rfl⟩
def Qt(k v:Ty)(key:k.T)(xs:List (k.T×v.T)):v.T:=(HB k v key xs).getD v.dflt
def mhas(k v:Ty)(key:k.T)(xs:List (k.T×v.T)):Bool:=(HB k v key xs).isSome
def ansT(v:Ty)(co:Bool)(x:v.T)(b:Bool):Sl:=bif co then .tup [(Dm v,Aq v 0 x),(false,[.c .bool 0 b])]else slT v x
def PX(s:St)(i:Option TI)(e u:Option Sl)(co:Bool):Option TR:=match i with
 |some i=>match i.ty,i.mp with
  |.mp k v,some _=>bif Jc k&&Jc v then(match entD s.r k v e,keyD k u with
   |some xs,some key=>some (.ok (ansT v co (Qt k v key xs) (mhas k v key xs)))
   |_,_=>none)else none
  |_,_=>none
 |none=>none
def Ack(s:St)(i:Option TI)(e:Option Sl):Option TR:=match i with
 |some i=>match i.ty,i.mp with
  |.mp k v,some _=>(match entD s.r k v e with
   |some xs=>some (.ok (.one (.c (.int .i64) 0 (ofN (H7 xs)))))
   |none=>none)
  |_,_=>none
 |none=>none
section
variable {P:Program}{Θ:Tab}{s:St}
theorem MB(F:Θ.OK P){k:Operand}{co:Bool}(h:PX s (Θ.look t) (s.ev x) (s.ev k) co=some a):QS P s (.lookup t x k co) a.y:=by
 unfold PX at h;split at h
 case h_2=>cases h
 rename_i i hi;split at h
 case h_2=>cases h
 rename_i kt u q O U;obtain⟨A,h⟩:=A1 h;rw[bAE]at A;split at h
 case h_2=>cases h
 rename_i xs key H B;cases h;obtain⟨sx,e1,e2⟩:=AbI H;obtain⟨sk,e3,e4⟩:=Yz (r:=s.r) A.1 B;have Z:=F.mp hi;rw[O]at Z;obtain⟨E,Y,m1,m2,m3,m4⟩:=map_v A.1 A.2 Z (by rw[U];simp)
 have hf:=YT (v:=u) A.1 key xs;have J:=slT_v (r:=s.r) u ((HB kt u key xs).getD u.dflt) A.2
 have hd:(Ib (DI kt key) (QI kt u xs)).getD (DI u u.dflt)=DI u ((HB kt u key xs).getD u.dflt):=by
  rw[hf];cases HB kt u key xs<;>rfl
 refine⟨E,Y,_,_,_,m1,by rw[Bd e1];exact e2,by rw[Bd e3];exact e4,m2,m3 key,?_,by rw[hd];exact J.2,?_⟩
 .intro e he
  obtain⟨z,_,rfl⟩:=List.mem_map.1 he;exact m4 key z.1
 .rw[hd]
  show Sub _ (Sl.v s.r (ansT u co (Qt kt u key xs) (mhas kt u key xs)));have hs:(Ib (DI kt key) (QI kt u xs)).isSome=(HB kt u key xs).isSome:=by rw[hf];cases HB kt u key xs<;>rfl
  rw[hs];unfold Qt mhas;cases co with
  |false=>exact Sub.of_eq J.1
  |true=>
   refine⟨_,rfl,λk hk=>Sub.of_eq ?_⟩
   have e:(if Dm u then Ag ((Aq u 0 ((HB kt u key xs).getD u.dflt)).map (Cl.v s.r))else((Aq u 0 ((HB kt u key xs).getD u.dflt)).map (Cl.v s.r)).getD 0 .dead)=AdI (DI u ((HB kt u key xs).getD u.dflt)):=by
    rw[J.1];unfold slT;cases ha:Dm u with
    |true=>rfl
    |false=>
     generalize (HB kt u key xs).getD u.dflt=z;have W:=A.2;cases u<;>first|rfl|(cases ha;done)|(cases W;done)
   match k,hk with
   |0,_=>exact e.symm
   |1,_=>rfl
theorem PZ(A:Θ.OK P)(h:Ack s (Θ.look t) (s.ev x)=some a):QS P s (.call ⟨.builtin .len,#[x],#[t]⟩) a.y:=by
 unfold Ack at h;split at h
 case h_2=>cases h
 rename_i i hi;split at h
 case h_2=>cases h
 rename_i kt u q E F;split at h
 case h_2=>cases h
 rename_i xs B;cases h;obtain⟨U,O,J⟩:=AbI B;have e:=A.mp hi;rw[E,F]at e;have H:∃q,WI P t=some q:=by
  unfold mpI at e;split at e
  .exact⟨_,by assumption⟩
  .obtain⟨a,b⟩:=q;cases e
 refine .inr ⟨H,QI kt u xs,?_,?_⟩
 .show AdT _ (s.den.ev x)=_
  rw[Bd O];exact J
 .have:(QI kt u xs).length=xs.length:=by simp[QI]
  show Sub (V.c (.int .i64 ((QI kt u xs).length:Nat))) (V.c (.int .i64 (ofN (H7 xs))));rw[this];exact Sub.refl _
end
theorem Cl.v_lens{r':List Ab}(h:∀id q,(Ac r' id q).len=(Ac r id q).len)(y:Cl):y.v r'=y.v r:=by
 cases y with
 |rf id p=>show V.rs id p 0 _=V.rs id p 0 _;grind
 |_=>rfl
theorem Sl.v_lens{r r':List Ab}(h:∀id q,(Ac r' id q).len=(Ac r id q).len)(y:Sl):y.v r'=y.v r:=by
 have e:=funext λc=>Cl.v_lens h c
 cases y with
 |one c=>exact Cl.v_lens h c
 |new l=>rfl
 |agg l=>show Ag _=Ag _;grind
 |tup l=>show Dq _=Dq _;grind
 |pk t l=>show pkL t _=pkL t _;grind
def Yi(ro:Bool)(k v:Ty)(x:List (k.T×v.T)):∀q:AG,((Ab.mp ro k v x).at' q).len=0
 |[]=>rfl
 |(i,j)::q=>by
  show(Ab.at' .dead q).len=0;rw[CT];rfl
theorem set_mp{id:Nat}{ro A:Bool}{x y:List (k.T×v.T)}(h:r.getD id .dead=.mp ro k v x)(u:Sl):u.v (r.set id (.mp A k v y))=u.v r:=by
 refine Sl.v_lens (λi q=>?_) u
 unfold Ac;by_cases e:i=id
 .subst e
  rw[h,Yi];by_cases B:i<r.length
  .rw[gDE,List.getElem?_set_self B];exact Yi _ _ _ _ _
  .rw[List.set_eq_of_length_le (by omega),h,Yi]
 .rw[gDE,List.getElem?_set_ne (Ne.symm e),<-gDE]
end Go.Ve

