/- The typed machine. -/
import Derived.Test.YtojjlnbnneemaaaTb
open Nat(ble blt beq)
open List(map_take map_drop map_cons)
set_option linter.all false
namespace Go.Ve
variable{ats:Array TypeId}{op:BinOp}{r:Bool}{va:List Value}{k n:Nat}{i x y:Operand}{P:Program}{a:TR}{t:TypeId}
structure Dy where
 t:Ty
 x:t.T
def Is(t:Ty)(y:Dy):Option t.T:=if h:y.t=t then some (h▸y.x)else none
theorem Hg{t:Ty}{y:Dy}{x:t.T}(h:Is t y=some x):(⟨t,x⟩:Dy)=y:=by
 unfold Is at h;split at h
 .rename_i u;subst u;cases h;rfl
 grind
def Ty.one:Ty->Bool
 |.unit=>false
 |.pair _ _=>false
 |_=>true
def BN{t:Ty}(h:t.one=true)(d:Nat)(x:t.T):tyV t d x=[cV t d x]:=by
 cases t<;>first|rfl|cases h
def DO:List Cl->Option Dy
 |[]=>some ⟨.unit,()⟩
 |y::l=>match y with
  |.c t _ x=>bif t.one then(match l with
   |[]=>some ⟨t,x⟩
   |_::_=>match DO l with
    |some ⟨A,u⟩=>some ⟨.pair t A,(x,u)⟩
    |none=>none)else none
  |_=>none
theorem Hd:∀(l:List Cl) (y:Dy),DO l=some y->tyV y.t 0 y.x=(l.map Cl.v0).map frz:=by
 intro l
 induction l with
 |nil=>intro y h;cases h;rfl
 |cons a l E=>
  intro y h;unfold DO at h;split at h
  case h_2=>cases h
  rename_i t d x;obtain⟨J,h⟩:=Bc h
  have u:[frz (cV t d x)]=tyV t 0 x:=by
   have:=Bj t d x;rw[BN J]at this;simpa using this
  split at h
  .cases h
   exact u.symm
  .rename_i b U
   split at h
   case h_2=>cases h
   rename_i B A O;cases h;show tyV t 0 x++tyV B 0 A=frz (cV t d x)::_;rw[E _ O,<-u];rfl
def VQ(s:St):Option TI->Nat->Option Sl->Option TR
 |some i,k,some (.one (.c (.ptr t) 0 x))=>
  match i.flds[k]? with
  |some (off,fs)=>match DO (((AA t 0 x).drop off).take fs)with
   |some ⟨A,u⟩=>bif ble (off+fs) t.w then some (.ok (.one (.c (.ptr A) 0 u)))else none
   |none=>none
  |none=>none
 |some i,k,some (.one (.rp id p j k0))=>
  match i.flds[k]? with
  |some (off,_)=>bif(Ag s.r id p).live&&blt (k0+off) (Ag s.r id p).w then some (.ok (.one (.rp id p j (k0+off))))else none
  |none=>none
 |some i,k,some (.pk .bx l)=>
  match i.flds[k]? with
  |some (off,fs)=>bif ble (off+fs) l.length&& !((l.drop off).take fs).any Cl.own then some (.ok (.pk .bx ((l.drop off).take fs)))else none
  |none=>none
 |_,_,_=>none
def H7(s:St):Option TI->Option Sl->Option Sl->Option TR
 |some i,some (.one (.c (.sl t) 0 xs)),some (.one (.c (.int _) _ n))=>
  bif beq t.w i.ty.w&&blt 0 i.ty.w then some (.cnd (0<=n/\n<ofN (HL xs)) inferInstance (.one (.c (.ptr t) 0 (Acv xs (Kk n) t.dflt))))else none
 |some i,some (.one (.rf id p)),some (.one (.c (.int _) _ n))=>
  match Ag s.r id p with
  |.arr _ t _ xs=>bif beq t.w i.ty.w&&blt 0 i.ty.w then some (.cnd (0<=n/\n<ofN (HL xs)) inferInstance (.one (.rp id p (Kk n) 0)))else none
  |_=>none
 |some i,some (.one (.rs id p off len)),some (.one (.c (.int _) _ n))=>
  match Ag s.r id p with
  |.arr _ t _ _=>bif beq t.w i.ty.w&&blt 0 i.ty.w then some (.cnd (0<=n/\n<ofN len) inferInstance (.one (.rp id p (off+Kk n) 0)))else none
  |_=>none
 |_,_,_=>none
def boolsL:List Cl->Option (List Bool)
 |[]=>some []
 |.c .bool _ b::l=>match boolsL l with
  |some bs=>some (b::bs)
  |none=>none
 |_=>none
def VP(_:Option TI)(_ _:Option Sl):Option TR:=none
def tNil:Option Sl->Option TR
 |some (.one (.c (.ptr t) 0 x))=>some (.ok (.one (.c (.ptr t) 0 x)))
 |some (.one (.rp id p i k))=>some (.ok (.one (.rp id p i k)))
 |some (.pk .bx l)=>bif l.any Cl.own then none else some (.ok (.pk .bx l))
 |_=>none
def Aah:List Cl->List Cl->Option Bool
 |[],[]=>some true
 |.c (.int k) _ a::l,.c (.int k') _ b::m=>if k'=k then(match Aah l m with
  |some r=>some (AcA (eqI a b) r)
  |none=>none)else none
 |.c .bool _ a::l,.c .bool _ b::m=>match Aah l m with
  |some r=>some (AcA (eqB a b) r)
  |none=>none
 |.c .str _ a::l,.c .str _ b::m=>match Aah l m with
  |some r=>some (AcA (eqS a b) r)
  |none=>none
 |_,_=>none
def kCs:List Nat->List Cl->Bool
 |[],[]=>true
 |k::ks,.c (.int _) _ _::l=>beq k 0&&kCs ks l
 |k::ks,.c .bool _ _::l=>beq k 1&&kCs ks l
 |k::ks,.c .str _ _::l=>beq k 2&&kCs ks l
 |_,_=>false
def tEq(op:BinOp)(r:Bool):Option TR:=match op with
 |.eql=>some (.ok (.one (.c .bool 0 r)))
 |.neq=>some (.ok (.one (.c .bool 0 (notB r))))
 |_=>none
def tsh(op:BinOp)(k:IntKind)(a b:Int):Option TR:=match op with
 |.shl=>some (.cnd (0<=b) inferInstance (.one (.c (.int k) 0 (shlI k a b))))
 |.shr=>some (.cnd (0<=b) inferInstance (.one (.c (.int k) 0 (Aa0 k a b))))
 |_=>none
def tBin(i:Option TI)(op:BinOp):Option Sl->Option Sl->Option TR
 |some (.one (.c .bool _ a)),some (.one (.c .bool _ b))=>match i with
  |some i=>(match i.eq with
   |some ks=>bif(match ks with
     |[k]=>beq k 9
     |_=>false)then tEq op (eqB a b)else none
   |none=>none)
  |none=>none
 |some (.agg l),some (.agg m)=>match i with
  |some i=>(match i.eq with
   |some ks=>bif kCs ks l&&kCs ks m then(match Aah l m with
    |some r=>tEq op r
    |none=>none)else none
   |none=>none)
  |none=>none
 |some (.one (.c (.int k) _ a)),some (.one (.c (.int k') _ b))=>match tsh op k a b with
  |some r=>some r
  |none=>if k'=k then match op with
   |.and=>some (.ok (.one (.c (.int k) 0 (Aaw k a b))))
   |.add=>some (.ok (.one (.c (.int k) 0 (k.wrap (a+b)))))
   |.sub=>some (.ok (.one (.c (.int k) 0 (k.wrap (a-b)))))
   |.mul=>some (.ok (.one (.c (.int k) 0 (k.wrap (a*b)))))
   |.quo=>some (.cnd (b≠0) inferInstance (.one (.c (.int k) 0 (k.wrap (a.tdiv b)))))
   |.rem=>some (.cnd (b≠0) inferInstance (.one (.c (.int k) 0 (a.tmod b))))
   |.eql=>some (.ok (.one (.c .bool 0 (eqI a b))))
   |.neq=>some (.ok (.one (.c .bool 0 (neI a b))))
   |.lss=>some (.ok (.one (.c .bool 0 (ltI a b))))
   |.leq=>some (.ok (.one (.c .bool 0 (leI a b))))
   |.gtr=>some (.ok (.one (.c .bool 0 (ltI b a))))
   |.geq=>some (.ok (.one (.c .bool 0 (leI b a))))
   |_=>none
  else none
 |some (.one (.c .str _ a)),some (.one (.c .str _ b))=>match op with
   |.add=>some (.cnd ((OV a+OV b:Nat)<=9223372036854775807) inferInstance (.one (.c .str 0 (catS a b))))
   |.eql=>some (.ok (.one (.c .bool 0 (eqS a b))))
   |.neq=>some (.ok (.one (.c .bool 0 (neS a b))))
   |.lss=>some (.ok (.one (.c .bool 0 (ltS a b))))
   |_=>none
 |some (.one (.c (.sl _) 0 xs)),some (.one .nil)=>match i with
  |some i=>bif !i.str&&i.elem.isSome then(match op with
   |.eql=>some (.cnd (0<HL xs) inferInstance (.one (.c .bool 0 false)))
   |.neq=>some (.cnd (0<HL xs) inferInstance (.one (.c .bool 0 true)))
   |_=>none)else none
  |none=>none
 |_,_=>none
def tUn(op:UnOp):Option Sl->Option TR
 |some (.one (.c .bool _ b))=>match op with
  |.not=>some (.ok (.one (.c .bool 0 (notB b))))
  |_=>none
 |some (.one (.c (.int k) _ n))=>match op with
  |.neg=>some (.ok (.one (.c (.int k) 0 (k.wrap (0-n)))))
  |_=>none
 |_=>none
def u8r(r:List Ae):Sl->Option (List Int)
 |.one (.c (.sl (.int .u8)) _ xs)=>some xs
 |.one (.rf id p)=>match Ag r id p with
  |.arr _ (.int .u8) _ xs=>some xs
  |_=>none
 |_=>none
def AaV(r:List Ae):Option TI->Option TI->Option TI->Option TI->Option Sl->Option TR
 |some _,some j,_,_,some (.one (.c (.int _) _ n))=>match j.ik with
  |some k=>some (.ok (.one (.c (.int k) 0 (k.wrap n))))
  |none=>none
 |some i,some j,some e,_,some y=>match u8r r y,e.ik with
  |some xs,some .u8=>bif !i.str&&j.str then some (.ok (.one (.c .str 0 (strOfNums xs))))else none
  |_,_=>none
 |_,_,_,_,_=>none
def LF(k:Nat):Option Sl->Option TR
 |some (.tup l)=>match l[k]? with
  |some (true,cs)=>bif cs.any Cl.own then none else some (.ok (.agg cs))
  |some (false,[c])=>bif c.own then none else some (.ok (.one c))
  |_=>none
 |_=>none
def slLen(s:St):Sl->Option Nat
 |.one (.c (.sl _) _ xs)=>some (HL xs)
 |.one .nil=>some 0
 |.one (.rf id p)=>some (Ag s.r id p).len
 |.one (.rs _ _ _ len)=>some len
 |_=>none
def tLen(s:St):Option TI->Option Sl->Option TR
 |some i,some y=>bif i.str then(match y with
   |.one (.c .str _ b)=>some (.ok (.one (.c (.int .i64) 0 (ofN (OV b)))))
   |_=>none)
  else bif i.elem.isSome then(match slLen s y with
   |some n=>some (.ok (.one (.c (.int .i64) 0 (ofN n))))
   |none=>none)
  else none
 |_,_=>none
def tMin:Option Sl->Option Sl->Option TR
 |some (.one (.c (.int k) _ x)),some (.one (.c (.int _) _ y))=>some (.ok (.one (.c (.int k) 0 (WO x y))))
 |_,_=>none
def tMax:Option Sl->Option Sl->Option TR
 |some (.one (.c (.int k) _ x)),some (.one (.c (.int _) _ y))=>some (.ok (.one (.c (.int k) 0 (Z1 x y))))
 |_,_=>none
section sound
variable {P:Program}{Θ:Tab}{s:St}
theorem M7(B:Θ.OK P)(h:VQ s (Θ.look t) k (s.ev x)=some a):QS P s (.fieldAddr t x k) a.y:=by
 unfold VQ at h;split at h
 case h_4=>cases h
 .rename_i i Y W O J
  split at h
  case h_2=>cases h
  rename_i off fs U;split at h
  case h_2=>cases h
  rename_i t2 x2 hd;obtain⟨u,h⟩:=Bc h;have u:=blE u;cases h;show Ju (US P t _) (s.r.map Ae.v) (s.den.ev x) (SK s _);rw[B.fld O U,Bf J];refine⟨by rw[AB];exact u,?_⟩
  have e:=Hd _ _ hd;rw[map_take,map_drop,BM,map_take,map_drop,Bj]at e;show Sub _ (Bp false (tyV t2 0 x2));rw[e];show Sub (V.nd false false fs 1 λi k=>([tyV Y 0 W].getD i []).getD (off+k) .dead) (Bp false (((tyV Y 0 W).drop off).take fs))
  unfold Bp;have Z:(((tyV Y 0 W).drop off).take fs).length=fs:=by rw[List.length_take,List.length_drop,AB];omega
  rw[Z];refine⟨_,rfl,λi' k' hi' hk'=>?_⟩
  obtain rfl:i'=0:=by omega
  refine Sub.of_eq ?_;simp[List.getElem?_take,hk']
 .rename_i i id p j k0 O J
  split at h
  case h_2=>cases h
  rename_i off fs U;obtain⟨u,h⟩:=Bc h;simp only[bAE]at u;cases h;show Ju (US P t _) (s.r.map Ae.v) (s.den.ev x) (SK s _);rw[B.fld O U,Bf J];refine⟨by rw[Cn u.1];exact blE u.2,Sub.refl _⟩
 .rename_i i l O J
  split at h
  case h_2=>cases h
  rename_i off fs U;obtain⟨u,h⟩:=Bc h;cases h;simp only[bAE,Bool.not_eq_true']at u;have hb1:=blE u.1;show Ju (US P t _) (s.r.map Ae.v) (s.den.ev x) (SK s _);rw[B.fld O U,Bf J];have Z:((l.drop off).take fs).length=fs:=by simp;omega
  have A:∀k,k<fs->((l.drop off).take fs).getD k .dead=l.getD (off+k) .dead:=λk E=>by simp[List.getElem?_take,E]
  have hv:∀k,(l.map (Cl.v s.r)).getD (off+k) .dead=(l.getD (off+k) .dead).v s.r:=λk=>AM (f:=Cl.v s.r) (a:=.dead) rfl _ _
  show(off+fs<=(l.map (Cl.v s.r)).length/\((List.range fs).all λk=>!AN ((l.map (Cl.v s.r)).getD (off+k) .dead))=true)/\Sub (V.many .bx fs λk=>(l.map (Cl.v s.r)).getD (off+k) .dead) (boxL (((l.drop off).take fs).map (Cl.v s.r)))
  refine⟨⟨by simpa using hb1,?_⟩,?_⟩
  .rw[aET]
   intro k E;have E:=List.mem_range.1 E;show(!AN ((l.map (Cl.v s.r)).getD (off+k) .dead))=true;rw[hv,Cl.own_v,<-A k E]
   have h2:=List.any_eq_false.1 u.2 (((l.drop off).take fs).getD k .dead) (by
    rw[gDE,gEE (by omega)]
    exact List.getElem_mem _)
   simpa using h2
  .show Sub _ (V.many .bx _ _)
   rw[List.length_map,Z];refine⟨_,rfl,λk E=>Sub.of_eq ?_⟩
   show(l.map (Cl.v s.r)).getD (off+k) .dead=_;rw[hv,AM (f:=Cl.v s.r) (a:=.dead) rfl,A k E]
theorem Iw{a b:Nat}{c:Bool}(h:(beq a b&&c)=true):a=b/\c=true:=by simp_all
theorem Lk(h:blt 0 n=true):0<n:=by simp_all
theorem Dz(u:Θ.OK P){j:TI}(h:((Θ.look t).bind (·.elem)).bind Θ.look=some j):∃e,slI P t=some ⟨e,j.ty.w,j.bytes,B2 j.ty⟩/\∃i,Θ.look t=some i/\i.elem=some e/\Θ.look e=some j:=by
 cases B:Θ.look t with
 |none=>grind
 |some i=>
  rw[B]at h;cases A:i.elem with
  |none=>grind
  |some e=>
   simp[A]at h;exact⟨e,u.elem B A h,i,rfl,A,h⟩
theorem IM(J:Θ.OK P)(h:H7 s (((Θ.look t).bind (·.elem)).bind Θ.look) (s.ev x) (s.ev i)=some a)(hp:a.p):QS P s (.indexAddr t x i) a.y:=by
 unfold H7 at h;split at h
 case h_4=>cases h
 .rename_i j E xs _ _ n Y W O
  obtain⟨e,u,_⟩:=Dz J Y;obtain⟨Z,h⟩:=Bc h;cases h;obtain⟨U,A⟩:=Iw Z;have A:=Lk A;obtain⟨p1,p2⟩:0<=n/\n<xs.length:=hp;show B9 (slI P t) (s.r.map Ae.v) (s.den.ev x) (s.den.ev i) (SK s _);rw[u,Bf W,Bf O];refine⟨U,by rw[U];exact A,⟨p1,p2⟩,?_⟩
  show Sub (V.nd false false E.w 1 λ_ k=>(tyV E 0 (xs.getD n.toNat E.dflt)).getD k .dead) (Bp false (tyV E 0 (xs.getD n.toNat E.dflt)))
  unfold Bp;rw[AB];refine⟨_,rfl,λi k O _=>?_⟩
  obtain rfl:i=0:=by omega
  exact Sub.refl _
 .rename_i j id p _ _ n Y W O
  obtain⟨e,u,_⟩:=Dz J Y;split at h
  case h_2=>cases h
  rename_i ro E d xs B;have hne:Ag s.r id p≠.dead:=by rw[B];simp
  obtain⟨Z,h⟩:=Bc h;cases h;obtain⟨U,A⟩:=Iw Z;have A:=Lk A;obtain⟨p1,p2⟩:0<=n/\n<xs.length:=hp;show B9 (slI P t) (s.r.map Ae.v) (s.den.ev x) (s.den.ev i) (SK s _);rw[u,Bf W,Bf O];have hl:(Ag s.r id p).len=xs.length:=by rw[B];rfl
  refine⟨by rw[Cn (by rw[B];rfl),B];exact U,A,⟨p1,by rw[hl];exact p2⟩,?_⟩
  show Sub (V.rp id p (0+n.toNat) 0) (V.rp id p n.toNat 0);rw[Nat.zero_add];exact Sub.refl _
 .rename_i j id p off len _ _ n Y W O
  obtain⟨e,u,_⟩:=Dz J Y;split at h
  case h_2=>cases h
  rename_i ro E d xs B;have hne:Ag s.r id p≠.dead:=by rw[B];simp
  obtain⟨Z,h⟩:=Bc h;cases h;obtain⟨U,A⟩:=Iw Z;have A:=Lk A;show B9 (slI P t) (s.r.map Ae.v) (s.den.ev x) (s.den.ev i) (SK s _);rw[u,Bf W,Bf O];exact⟨by rw[Cn (by rw[B];rfl),B];exact U,A,hp,Sub.refl _⟩
def M5(u:Θ.OK P)(h:VP (Θ.look t) (s.ev x) (s.ev i)=some a)(A:a.p):QS P s (.index t x i) a.y:=by
 unfold VP at h;cases h
theorem Q5(h:tNil (s.ev x)=some a):QS P s (.nilCheck x) a.y:=by
 unfold tNil at h;split at h<;>try grind
 .rename_i u
  cases h;show Abb (s.den.ev x) (SK s _);rw[Bf u];exact Sub.refl _
 .rename_i u
  cases h;show Abb (s.den.ev x) (SK s _);rw[Bf u];rfl
 .rename_i l u
  cases A:l.any Cl.own with
  |true=>grind
  |false=>
   rw[A]at h;cases h;show Abb (s.den.ev x) (SK s _);rw[Bf u];refine⟨?_,Sub.refl _⟩;show AN (Sl.v s.r (.pk .bx l))=false;rw[Sl.own_v]
   trivial
theorem W5{l:List Cl}:∀{ks:List Nat},kCs ks l=true->ks≠[9]:=by
 rintro ks h rfl
 cases l with
 |nil=>cases h
 |cons y l=>
  cases y<;>try trivial
  rename_i t d x;cases t<;>cases h
def QD(r:List Ae):∀(ks:List Nat) (l m:List Cl) (z:Bool),kCs ks l=true->kCs ks m=true->Aah l m=some z->
  ∃va B:List Value,l.map (Cl.v r)=va.map V.c/\m.map (Cl.v r)=B.map V.c/\okL ks va B=true/\Hi va B=z
 |[],[],[],z,_,_,h=>by cases h;exact⟨[],[],rfl,rfl,rfl,rfl⟩
 |[],[],_::_,_,_,h,_=>by cases h
 |[],_::_,_,_,h,_,_=>by cases h
 |_::_,[],_,_,h,_,_=>by cases h
 |_::_,_::_,[],_,_,h,_=>by cases h
 |k::ks,a::l,b::m,z,u,E,h=>by
  cases a<;>try (cases u;done)
  cases b<;>try (cases E;done)
  rename_i t d x t' d' A;cases t<;>try (cases u;done)
  .rename_i q
   cases t'<;>try (cases h;done)
   rename_i J
   have h:(if J=q then(match Aah l m with
    |some r=>some (AcA (eqI x A) r)
    |none=>none)else none)=some z:=h
   split at h
   case isFalse=>cases h
   rename_i hq;subst hq;split at h
   case h_2=>cases h
   rename_i O W;cases h;have u:(beq k 0&&kCs ks l)=true:=u;have E:(beq k 0&&kCs ks m)=true:=E;rw[bAE]at u E;obtain⟨va,B,e1,e2,Z,Y⟩:=QD r ks l m O u.2 E.2 W;have U:=bqE u.1;subst U;refine⟨.int J x::va,.int J A::B,?_,?_,?_,?_⟩
   .rw[map_cons,map_cons,e1];rfl
   .rw[map_cons,map_cons,e2];rfl
   .show((kOf (.int J x)==some 0)&&(kOf (.int J A)==some 0)&&Cz (.int J x) (.int J A)&&okL ks va B)=true
    rw[Z];simp[kOf,Cz]
   .show(vEq (.int J x) (.int J A)&&Hi va B)=_
    rw[Y];rfl
  .cases t'<;>try (cases h;done)
   have h:(match Aah l m with
    |some r=>some (AcA (eqB x A) r)
    |none=>none)=some z:=h
   split at h
   case h_2=>cases h
   rename_i O W;cases h;have u:(beq k 1&&kCs ks l)=true:=u;have E:(beq k 1&&kCs ks m)=true:=E;rw[bAE]at u E;obtain⟨va,B,e1,e2,Z,Y⟩:=QD r ks l m O u.2 E.2 W;have U:=bqE u.1;subst U;refine⟨.bool x::va,.bool A::B,?_,?_,?_,?_⟩
   .rw[map_cons,map_cons,e1];rfl
   .rw[map_cons,map_cons,e2];rfl
   .show((kOf (.bool x)==some 1)&&(kOf (.bool A)==some 1)&&Cz (.bool x) (.bool A)&&okL ks va B)=true
    rw[Z];simp[kOf,Cz]
   .show(vEq (.bool x) (.bool A)&&Hi va B)=_
    rw[Y];rfl
  .cases t'<;>try (cases h;done)
   have h:(match Aah l m with
    |some r=>some (AcA (eqS x A) r)
    |none=>none)=some z:=h
   split at h
   case h_2=>cases h
   rename_i O W;cases h;have u:(beq k 2&&kCs ks l)=true:=u;have E:(beq k 2&&kCs ks m)=true:=E;rw[bAE]at u E;obtain⟨va,B,e1,e2,Z,Y⟩:=QD r ks l m O u.2 E.2 W;have U:=bqE u.1;subst U;refine⟨.string x::va,.string A::B,?_,?_,?_,?_⟩
   .rw[map_cons,map_cons,e1];rfl
   .rw[map_cons,map_cons,e2];rfl
   .show((kOf (.string x)==some 2)&&(kOf (.string A)==some 2)&&Cz (.string x) (.string A)&&okL ks va B)=true
    rw[Z];simp[kOf,Cz]
   .show(vEq (.string x) (.string A)&&Hi va B)=_
    rw[Y];rfl
theorem ZM{D:Nat->Prop}{w:World}{R:V->Value->Prop}{cx:Value}{fp:Nat->Prop}(h:Rel D w R (Am (va.map V.c)) cx fp):cx=.agg va.toArray:=by
 obtain⟨cs,F,e,u,B⟩:=h;subst e
 congr 1
 apply Array.ext
 .simp[u]
 .intro i O E
  have A:=by simpa using E
  have:=B.1 i (by omega)
  have e:(va.map V.c).getD i .dead=.c va[i]:=by simp[A]
  have this:Rel D w R ((va.map V.c).getD i .dead) (cs.getD i undef) (F i):=this;rw[e]at this;have J:=this.1
  simp_all
def J2{a b:Bool}{k:List Nat}(E:Mw P t=some [9])(h:(op=.eql/\r=(a==b))\/(op=.neq/\r= !(a==b))):H0 P op t x y (.c (.bool a)) (.c (.bool b)) (.c (.bool r)):=by
 intro w D R cx J B A;obtain⟨rfl,_⟩:=B;obtain⟨rfl,_⟩:=A;refine⟨.bool r,?_,rfl,rfl,λ_ h=>h⟩
 have u:=UY w (a:=a) (b:=b) E;rcases h with⟨rfl,rfl⟩|⟨rfl,rfl⟩
 .simp[eqGuard,binOp,u]
 .simp[eqGuard,binOp,u]
def Ln{u:List Value}{ks:List Nat}(W:Mw P t=some ks)(U:ks≠[9])(O:okL ks va u=true)(h:(op=.eql/\r=Hi va u)\/(op=.neq/\r= !Hi va u)):H0 P op t x y (Am (va.map V.c)) (Am (u.map V.c)) (.c (.bool r)):=by
 intro w D R cx Y B A;have B:=ZM B;have A:=ZM A;subst B;subst A;refine⟨.bool r,?_,rfl,rfl,λ_ h=>h⟩
 obtain⟨J,E⟩:=Ob w W U O;rcases h with⟨rfl,rfl⟩|⟨rfl,rfl⟩
 .simp[eqGuard,binOp,J,E]
 .simp[eqGuard,binOp,J,E]
def Ly(va:List Value):AN (Am (va.map V.c))=false:=by
 rw[VN,List.any_map,List.any_eq_false];simp[AN]
theorem Lm{sz:Nat}{f:Nat->Nat->V}(u:MV P t=.slice)(W:0<n)(O:(op=.eql/\r=false)\/(op=.neq/\r=true)):H0 P op t x y (.nd true false sz n f) (.c (.slice none 0 0)) (.c (.bool r)):=by
 intro w D R cx U J A;have B:∃e,P.underlying t=some (.slice e):=by
  unfold MV at u;split at u
  .cases u
  .exact⟨_,by assumption⟩
  .cases u
 obtain⟨e,B⟩:=B;rcases J with⟨Y,_⟩|⟨b,o,cap,F,rfl,_⟩
 .omega
 have A:U=.slice none 0 0:=A.1;subst A;refine⟨.bool r,?_,rfl,rfl,λ_ h=>h⟩
 have E:(Op.equal t (.slice (some ⟨b,o,none⟩) n cap) (.slice none 0 0)).run P w=.ok false w:=by
  unfold Op.equal;rw[show Op.maxDepth=9999+1 from rfl]
  unfold Op.equalIn;simp[run_underlying B]
 rcases O with⟨rfl,rfl⟩|⟨rfl,rfl⟩
 .simp[AC,eqGuard,binOp,E]
 .simp[AC,eqGuard,binOp,E]
theorem Ue{Θ:Tab}{s:St}(O:Θ.OK P){yt:TypeId}(h:tBin (Θ.look t) op (s.ev x) (s.ev y)=some a)(Y:a.p):QS P s (.binOp op t x y yt) a.y:=by
 unfold tBin at h;split at h
 case h_6=>cases h
 rotate_left 4
 .rename_i t1 xs B A
  split at h
  case h_2=>cases h
  rename_i i hi;cases u:(!i.str&&i.elem.isSome)with
  |false=>rw[u]at h;cases h
  |true=>
   rw[u]at h;simp only[bAE,Bool.not_eq_true']at u;have Z:MV P t=.slice:=by
    rw[O.ln hi,u.1];obtain⟨e,he⟩:=Option.isSome_iff_exists.1 u.2;rw[he];rfl
   simp only[cond_true]at h;show Uv P op t x y (s.den.ev x) (s.den.ev y) (SK s _);rw[Bf B,Bf A];show ∃z,H0 P op t x y (.nd true false t1.w xs.length λi k=>(tyV t1 0 (xs.getD i t1.dflt)).getD k .dead) (.c (.slice none 0 0)) z/\_/\_/\SK s _ z
   split at h
   .cases h
    exact⟨.c (.bool false),Lm Z Y (.inl ⟨rfl,rfl⟩),rfl,rfl,Sub.refl _⟩
   .cases h
    exact⟨.c (.bool true),Lm Z Y (.inr ⟨rfl,rfl⟩),rfl,rfl,Sub.refl _⟩
   .cases h
 .rename_i _ J _ b' B A
  split at h
  case h_2=>cases h
  rename_i i hi;split at h
  case h_2=>cases h
  rename_i ks U;have W:Mw P t=some ks:=by rw[O.eq hi,U]
  obtain⟨u,h⟩:=Bc h;have e9:ks=[9]:=by
   split at u
   .rw[bqE u]
   .cases u
  subst e9;show Uv P op t x y (s.den.ev x) (s.den.ev y) (SK s _);rw[Bf B,Bf A];show ∃z,H0 P op t x y (.c (.bool J)) (.c (.bool b')) z/\_/\_/\SK s _ z;unfold tEq at h;simp only[cond_true]at h;split at h
  .cases h
   exact⟨.c (.bool (J==b')),J2 (k:=[]) W (.inl ⟨rfl,rfl⟩),rfl,rfl,Sub.refl _⟩
  .cases h
   exact⟨.c (.bool (!(J==b'))),J2 (k:=[]) W (.inr ⟨rfl,rfl⟩),rfl,rfl,Sub.refl _⟩
  .cases h
 .rename_i l m B A
  split at h
  case h_2=>cases h
  rename_i i hi;split at h
  case h_2=>cases h
  rename_i ks U;have W:Mw P t=some ks:=by rw[O.eq hi,U]
  cases u:(kCs ks l&&kCs ks m)with
  |false=>rw[u]at h;cases h
  |true=>
   rw[u]at h;rw[bAE]at u;simp only[cond_true]at h;split at h
   case h_2=>cases h
   rename_i r E;obtain⟨va,vb,e1,e2,e3,e4⟩:=QD s.r ks l m r u.1 u.2 E;show Uv P op t x y (s.den.ev x) (s.den.ev y) (SK s _);rw[Bf B,Bf A];show ∃z,H0 P op t x y (Am (l.map (Cl.v s.r))) (Am (m.map (Cl.v s.r))) z/\AN (Am (l.map (Cl.v s.r)))=false/\AN (Am (m.map (Cl.v s.r)))=false/\SK s _ z;rw[e1,e2];unfold tEq at h;split at h
   .cases h
    exact⟨.c (.bool r),Ln W (W5 u.1) e3 (.inl ⟨rfl,e4.symm⟩),Ly _,Ly _,Sub.refl _⟩
   .cases h
    exact⟨.c (.bool (!r)),Ln W (W5 u.1) e3 (.inr ⟨rfl,by rw[e4]⟩),Ly _,Ly _,Sub.refl _⟩
   .cases h
 .rename_i k _ J k' _ b B A
  show Uv P op t x y (s.den.ev x) (s.den.ev y) (SK s _);rw[Bf B,Bf A];show Uv P op t x y (.c (.int k J)) (.c (.int k' b)) (SK s _);unfold Uv AaB;split at h
  .rename_i r E
   cases h;unfold tsh at E;split at E<;>cases E
   .exact⟨Y,Sub.refl _⟩
   .exact⟨Y,Sub.refl _⟩
  rename_i E;have hv:vsh op k J b=none:=by
   unfold tsh at E;unfold vsh;split at E<;>first|(cases E;done)|skip
   split<;>first|rfl|(exfalso;simp_all)
  split at h
  case isFalse=>cases h
  rename_i W;subst W;simp only[hv,if_true];split at h<;>first|(cases h;done)|(cases h;exact⟨trivial,Sub.refl _⟩)|(cases h;exact⟨Y,Sub.refl _⟩)
 .rename_i _ J _ b B A
  show Uv P op t x y (s.den.ev x) (s.den.ev y) (SK s _);rw[Bf B,Bf A];show Uv P op t x y (.c (.string J)) (.c (.string b)) (SK s _);unfold Uv AaB;split at h<;>first|(cases h;done)|(cases h;exact⟨trivial,Sub.refl _⟩)|(cases h;exact⟨Y,Sub.refl _⟩)
theorem VE{op:UnOp}(h:tUn op (s.ev x)=some a):QS P s (.unOp op t x) a.y:=by
 unfold tUn at h;split at h
 case h_3=>grind
 all_goals
  rename_i u;split at h<;>try grind
  cases h;show qUn _ (s.den.ev x) (SK s _);rw[Bf u];exact Sub.refl _
def Ls{f:Nat->V}{l:List Int}:∀(n:Nat),n<=l.length->(∀i,i<n->f i=.c (.int .u8 (l.getD i 0)))->X0 f n=some (l.take n)
 |0,_,_=>rfl
 |n+1,hn,h=>by
  unfold X0;rw[Ls n (by omega) (λi u=>h i (by omega)),h n (by simp)]
  simp[show n<l.length by omega]
theorem u8r_v{r:List Ae}{y:Sl}{xs:List Int}(h:u8r r y=some xs):bytV (r.map Ae.v) (y.v r)=some xs/\∀k n,y.v r≠.c (.int k n):=by
 unfold u8r at h;split at h
 .cases h
  refine⟨?_,λk n e=>by cases e⟩
  exact(Ls (l:=xs) xs.length (Nat.le_refl _) λi E=>rfl).trans (by simp)
 .rename_i id p
  split at h
  case h_2=>cases h
  rename_i ro d B A;cases h;refine⟨?_,λk n e=>by cases e⟩
  have u:Ag r id p≠.dead:=by rw[A];simp
  show(match sub p ((r.map Ae.v).getD id .dead)with
   |.nd true true 1 n f=>if 0+(Ag r id p).len<=n then X0 (λi=>f (0+i) 0) (Ag r id p).len else none
   |_=>none)=_
  rw[AV u,A];show(if 0+xs.length<=xs.length then X0 _ xs.length else none)=_
  rw[if_pos (by omega)]
  exact(Ls (l:=xs) xs.length (Nat.le_refl _) λi E=>by rw[Nat.zero_add];rfl).trans (by simp)
 .cases h
theorem OR(A:Θ.OK P){u v:TypeId}(h:AaV s.r (Θ.look u) (Θ.look v) (((Θ.look u).bind (·.elem)).bind Θ.look) (((Θ.look v).bind (·.elem)).bind Θ.look) (s.ev x)=some a)(hp:a.p):QS P s (.convert u v x) a.y:=by
 unfold AaV at h
 have U:∀(t:TypeId) (i:TI),Θ.look t=some i->∃d,P.underlying t=some d:=by
  intro t i O;have:=A.ty O;unfold tyI at this;split at this
  .exact⟨_,by assumption⟩
  .cases this
 split at h
 case h_3=>cases h
 .rename_i i j _ _ _ _ n O hj W
  split at h
  case h_2=>cases h
  rename_i k hk;cases h;show KN P (s.r.map Ae.v) u v (s.den.ev x) (SK s _);have B:cvI P u v=.int k:=by
   obtain⟨d,hd⟩:=U _ _ O;have E:=A.ik hj;rw[hk]at E;unfold ukI at E;split at E
   .rename_i k' Y;cases E;unfold cvI;simp[hd,Y]
   .cases E
  rw[NB (by rw[B];intro h;cases h)]
  unfold O5;rw[B,Bf W];exact Sub.refl _
 .rename_i i j e y _ O hj he W
  split at h
  case h_2=>cases h
  rename_i xs Z hik;obtain⟨hb,h⟩:=Bc h;simp only[bAE]at hb;cases h;obtain⟨e',hsl,i2,_,_,hlk⟩:=Dz A he;obtain⟨E,_⟩:=Dn hsl;have J:=A.ik hlk;rw[hik]at J;unfold ukI at J;split at J
  .rename_i k' Y
   cases J;have h3:=V1 (by have:=A.sk hj;rw[hb.2]at this;exact this)
   have B:cvI P u v=.bytes:=by unfold cvI;simp[E,h3,Y]
   obtain⟨g1,g2⟩:=u8r_v Z;show KN P (s.r.map Ae.v) u v (s.den.ev x) (SK s _);rw[NB (by rw[B];intro h;cases h)]
   unfold O5;rw[B,Bf W]
   show(match bytV (s.r.map Ae.v) (y.v s.r)with
    |some l=>SK s (.one (.c .str 0 (strOfNums xs))) (.c (.string (strOfNums l)))
    |none=>False)
   rw[g1];exact Sub.refl _
  .cases J
theorem Ke(h:LF k (s.ev x)=some a):QS P s (.extract x k) a.y:=by
 unfold LF at h;split at h
 case h_2=>cases h
 rename_i l J
 have key:∀(p:Bool×List Cl),l[k]? =some p->k<(l.map λp=>if p.1 then Am (p.2.map (Cl.v s.r))else(p.2.map (Cl.v s.r)).getD 0 .dead).length/\
   (l.map λp=>if p.1 then Am (p.2.map (Cl.v s.r))else(p.2.map (Cl.v s.r)).getD 0 .dead).getD k .dead=if p.1 then Am (p.2.map (Cl.v s.r))else(p.2.map (Cl.v s.r)).getD 0 .dead:=by
  grind
 split at h
 case h_3=>cases h
 .rename_i cs B
  obtain⟨E,A⟩:=key _ B;cases u:cs.any Cl.own with
  |true=>rw[u]at h;cases h
  |false=>
   rw[u]at h;cases h;show CC (s.den.ev x) k (SK s _);rw[Bf J];refine⟨E,?_,?_⟩
   .show AN ((l.map _).getD k .dead)=false
    rw[A];show AN (Am _)=false;rw[MN,u]
   .show SK s _ ((l.map _).getD k .dead)
    rw[A];exact Sub.refl _
 .rename_i c B
  obtain⟨E,A⟩:=key _ B;cases u:c.own with
  |true=>rw[u]at h;cases h
  |false=>
   rw[u]at h;cases h;show CC (s.den.ev x) k (SK s _);rw[Bf J];refine⟨E,?_,?_⟩
   .show AN ((l.map _).getD k .dead)=false
    rw[A];show AN (c.v s.r)=false;rw[Cl.own_v,u]
   .show SK s _ ((l.map _).getD k .dead)
    rw[A];exact Sub.refl _
theorem Ub(A:Θ.OK P)(h:tLen s (Θ.look t) (s.ev x)=some a):QS P s (.call ⟨.builtin .len,#[x],#[t]⟩) a.y:=by
 have u:∀y,(Aby (MV P t) (s.den.ev x)=true/\qLen (s.den.ev x) (SK s y))->QS P s (.call ⟨.builtin .len,#[x],#[t]⟩) y:=λy h=>.inl h
 unfold tLen at h;split at h
 case h_2=>cases h
 rename_i i y U O;cases E:i.str with
 |true=>
  rw[E]at h;split at h
  .rename_i b
   cases h;refine u _ ?_;rw[Bf O,A.ln U,E];exact⟨rfl,Sub.refl _⟩
  .cases h
 |false=>
  rw[E]at h;cases J:i.elem with
  |none=>rw[J]at h;cases h
  |some e=>
   rw[J]at h;simp only[cond_false,cond_true]at h;split at h
   .rename_i n B
    cases h;refine u _ ?_;rw[Bf O,A.ln U,E,J];unfold slLen at B;split at B<;>first|(cases B;done)|(cases B;exact⟨rfl,Sub.refl _⟩)
   .cases h
theorem Q8(h:tMin (s.ev x) (s.ev y)=some a):QS P s (.call ⟨.builtin .min,#[x,y],ats⟩) a.y:=by
 unfold tMin at h;split at h<;>try grind
 rename_i A u;cases h;show DG .min (s.den.ev x) (s.den.ev y) (SK s _);rw[Bf A,Bf u];exact Sub.refl _
theorem Q9(h:tMax (s.ev x) (s.ev y)=some a):QS P s (.call ⟨.builtin .max,#[x,y],ats⟩) a.y:=by
 unfold tMax at h;split at h<;>try grind
 rename_i A u;cases h;show DG .max (s.den.ev x) (s.den.ev y) (SK s _);rw[Bf A,Bf u];exact Sub.refl _
end sound
end Go.Ve


namespace Go.Ve
variable{r:List Ae}{x:Operand}{y:Option Sl}{a:TR}{k v:Ty}{t:TypeId}
def keyD(k:Ty):Option Sl->Option k.T
 |some (.one (.c t _ x))=>bif Di k then none else Is k ⟨t,x⟩
 |some (.agg l)=>bif Di k then(match DO l with
  |some y=>Is k y
  |none=>none)else none
 |_=>none
theorem flatK:∀(l:List Cl) (y:Dy),DO l=some y->IG y.t=true->l.map (Cl.v r)=(AR y.t y.x).map V.c:=by
 have u:∀(t:Ty) (d:Nat) (x:t.T),t.one=true->IG t=true->[(Cl.c t d x).v r]=(AR t x).map V.c:=by
  intro t d x Y W;cases t<;>first|rfl|(cases Y;done)|(cases W;done)
 intro l
 induction l with
 |nil=>intro y h _;cases h;rfl
 |cons a l O=>
  intro y h A;unfold DO at h;split at h
  case h_2=>cases h
  rename_i t d x;obtain⟨J,h⟩:=Bc h;split at h
  .cases h
   exact u t d x J A
  .rename_i b Z
   split at h
   case h_2=>cases h
   rename_i B E U;cases h;have A:(IG t&&IG B)=true:=A;rw[bAE]at A;have e:AR (.pair t B) (x,E)=AR t x++AR B E:=by simp[AR,tyV]
   rw[e,List.map_append,<-u t d x J A.1,<-O _ U A.2];rfl
theorem W2{x:k.T}(A:IG k=true)(h:keyD k y=some x):∃s,y=some s/\Z4 (s.v r)=some (DB k x):=by
 unfold keyD at h;split at h
 case h_3=>cases h
 .rename_i t d J
  cases u:Di k with
  |true=>rw[u]at h;cases h
  |false=>
   rw[u]at h;have h:=Hg h;cases h;refine⟨_,rfl,?_⟩;cases k<;>first|rfl|(cases u;done)|(cases A;done)
 .rename_i l
  cases u:Di k with
  |false=>rw[u]at h;cases h
  |true=>
   rw[u]at h;simp only[cond_true]at h;split at h
   case h_2=>cases h
   rename_i E B;have h:=Hg h;cases h;refine⟨_,rfl,?_⟩;show Z4 (Am (l.map (Cl.v r)))=_;rw[flatK l _ B A,W1];unfold DB;rw[u];rfl
def entD(r:List Ae)(k v:Ty):Option Sl->Option (List (k.T×v.T))
 |some (.one (.rm id p))=>match Ag r id p with
  |.mp _ k' v' xs=>Is (.mp k v) ⟨.mp k' v',xs⟩
  |_=>none
 |some (.one (.c (.mp k' v') _ xs))=>Is (.mp k v) ⟨.mp k' v',xs⟩
 |_=>none
def Aai{xs:List (k.T×v.T)}(h:entD r k v y=some xs):∃s,y=some s/\Acx (r.map Ae.v) (s.v r)=some (Pv k v xs):=by
 unfold entD at h;split at h
 case h_3=>cases h
 .rename_i id p
  split at h
  case h_2=>cases h
  rename_i ro k' v' A u;have h:=Hg h;cases h;refine⟨_,rfl,?_⟩
  show(match sub p ((r.map Ae.v).getD id .dead)with
   |.mp true l=>some l
   |_=>none)=_
  rw[AV (by rw[u];simp),u]
  rfl
 .have h:=Hg h
  cases h;exact⟨_,rfl,rfl⟩
def Ov(k v:Ty)(key:k.T)(xs:List (k.T×v.T)):v.T:=(BA k v key xs).getD v.dflt
def YR(k v:Ty)(key:k.T)(xs:List (k.T×v.T)):Bool:=(BA k v key xs).isSome
def ansT(v:Ty)(co:Bool)(x:v.T)(b:Bool):Sl:=bif co then .tup [(Di v,AA v 0 x),(false,[.c .bool 0 b])]else slT v x
def OO(s:St)(i:Option TI)(u A:Option Sl)(co:Bool):Option TR:=match i with
 |some i=>match i.ty,i.mp with
  |.mp k v,some _=>bif IG k&&IG v then(match entD s.r k v u,keyD k A with
   |some xs,some key=>some (.ok (ansT v co (Ov k v key xs) (YR k v key xs)))
   |_,_=>none)else none
  |_,_=>none
 |none=>none
def AaU(s:St)(i:Option TI)(u:Option Sl):Option TR:=match i with
 |some i=>match i.ty,i.mp with
  |.mp k v,some _=>(match entD s.r k v u with
   |some xs=>some (.ok (.one (.c (.int .i64) 0 (ofN (HL xs)))))
   |none=>none)
  |_,_=>none
 |none=>none
section
variable {P:Program}{Θ:Tab}{s:St}
theorem LA(J:Θ.OK P){k:Operand}{co:Bool}(h:OO s (Θ.look t) (s.ev x) (s.ev k) co=some a):QS P s (.lookup t x k co) a.y:=by
 unfold OO at h;split at h
 case h_2=>cases h
 rename_i i hi;split at h
 case h_2=>cases h
 rename_i kt u q W Y;obtain⟨A,h⟩:=Bc h;rw[bAE]at A;split at h
 case h_2=>cases h
 rename_i xs key O B;cases h;obtain⟨sx,e1,e2⟩:=Aai O;obtain⟨sk,e3,e4⟩:=W2 (r:=s.r) A.1 B;have hm:=J.mp hi;rw[W]at hm;obtain⟨E,et',m1,m2,m3,m4⟩:=map_v A.1 A.2 hm (by rw[Y];simp)
 have hf:=Xq (v:=u) A.1 key xs;have U:=slT_v (r:=s.r) u ((BA kt u key xs).getD u.dflt) A.2
 have hd:(HR (DB kt key) (Pv kt u xs)).getD (DB u u.dflt)=DB u ((BA kt u key xs).getD u.dflt):=by
  rw[hf];cases BA kt u key xs<;>rfl
 refine⟨E,et',_,_,_,m1,by rw[Bf e1];exact e2,by rw[Bf e3];exact e4,m2,m3 key,?_,by rw[hd];exact U.2,?_⟩
 .intro e he
  obtain⟨z,_,rfl⟩:=List.mem_map.1 he;exact m4 key z.1
 .rw[hd]
  show Sub _ (Sl.v s.r (ansT u co (Ov kt u key xs) (YR kt u key xs)));have hs:(HR (DB kt key) (Pv kt u xs)).isSome=(BA kt u key xs).isSome:=by rw[hf];cases BA kt u key xs<;>rfl
  rw[hs];unfold Ov YR;cases co with
  |false=>exact Sub.of_eq U.1
  |true=>
   refine⟨_,rfl,λk hk=>Sub.of_eq ?_⟩
   have e:(if Di u then Am ((AA u 0 ((BA kt u key xs).getD u.dflt)).map (Cl.v s.r))else((AA u 0 ((BA kt u key xs).getD u.dflt)).map (Cl.v s.r)).getD 0 .dead)=Ack (DB u ((BA kt u key xs).getD u.dflt)):=by
    rw[U.1];unfold slT;cases ha:Di u with
    |true=>rfl
    |false=>
     generalize (BA kt u key xs).getD u.dflt=z;have Z:=A.2;cases u<;>first|rfl|(cases ha;done)|(cases Z;done)
   match k,hk with
   |0,_=>exact e.symm
   |1,_=>rfl
theorem OQ(B:Θ.OK P)(h:AaU s (Θ.look t) (s.ev x)=some a):QS P s (.call ⟨.builtin .len,#[x],#[t]⟩) a.y:=by
 unfold AaU at h;split at h
 case h_2=>cases h
 rename_i i W;split at h
 case h_2=>cases h
 rename_i kt A q J O;split at h
 case h_2=>cases h
 rename_i xs E;cases h;obtain⟨sx,Z,Y⟩:=Aai E;have u:=B.mp W;rw[J,O]at u;have U:∃q,Vf P t=some q:=by
  unfold mpI at u;split at u
  .exact⟨_,by assumption⟩
  .obtain⟨a,b⟩:=q;cases u
 refine .inr ⟨U,Pv kt A xs,?_,?_⟩
 .show Acx _ (s.den.ev x)=_
  rw[Bf Z];exact Y
 .have:(Pv kt A xs).length=xs.length:=by simp[Pv]
  show Sub (V.c (.int .i64 ((Pv kt A xs).length:Nat))) (V.c (.int .i64 (ofN (HL xs))));rw[this];exact Sub.refl _
end
theorem Cl.v_lens{r':List Ae}(h:∀id q,(Ag r' id q).len=(Ag r id q).len)(y:Cl):y.v r'=y.v r:=by
 cases y with
 |rf id p=>show V.rs id p 0 _=V.rs id p 0 _;grind
 |_=>rfl
theorem Sl.v_lens{r r':List Ae}(h:∀id q,(Ag r' id q).len=(Ag r id q).len)(y:Sl):y.v r'=y.v r:=by
 have e:=funext λc=>Cl.v_lens h c
 cases y with
 |one c=>exact Cl.v_lens h c
 |new l=>rfl
 |agg l=>show Am _=Am _;grind
 |tup l=>show DC _=DC _;grind
 |pk t l=>show pkL t _=pkL t _;grind
def WM(ro:Bool)(k v:Ty)(x:List (k.T×v.T)):∀q:AX,((Ae.mp ro k v x).at' q).len=0
 |[]=>rfl
 |(i,j)::q=>by
  show(Ae.at' .dead q).len=0;rw[CQ];rfl
theorem set_mp{id:Nat}{ro A:Bool}{x y:List (k.T×v.T)}(h:r.getD id .dead=.mp ro k v x)(u:Sl):u.v (r.set id (.mp A k v y))=u.v r:=by
 refine Sl.v_lens (λi q=>?_) u
 unfold Ag;by_cases e:i=id
 .subst e
  rw[h,WM];by_cases B:i<r.length
  .rw[gDE,List.getElem?_set_self B];exact WM _ _ _ _ _
  .rw[List.set_eq_of_length_le (by omega),h,WM]
 .rw[gDE,List.getElem?_set_ne (Ne.symm e),<-gDE]
end Go.Ve

