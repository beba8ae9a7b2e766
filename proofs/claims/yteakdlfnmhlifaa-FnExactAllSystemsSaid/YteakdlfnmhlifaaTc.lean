/- The typed machine. -/
import Derived.Test.YteakdlfnmhlifaaTb
open Nat(ble blt beq)
open List(map_take map_drop map_cons)
set_option linter.all false
namespace Go.Ve
variable{ats:Array TypeId}{op:BinOp}{r:Bool}{va:List Value}{k n:Nat}{i x y:Operand}{P:Program}{a:TR}{t:TypeId}
structure Dy where
 t:Ty
 x:t.T
def KE(t:Ty)(y:Dy):Option t.T:=if h:y.t=t then some (h▸y.x)else none
theorem Qk{t:Ty}{y:Dy}{x:t.T}(h:KE t y=some x):(⟨t,x⟩:Dy)=y:=by
 unfold KE at h;split at h
 .rename_i A;subst A;cases h;rfl
 grind
def Ty.one:Ty->Bool
 |.unit=>false
 |.pair _ _=>false
 |_=>true
def Bm{t:Ty}(h:t.one=true)(d:Nat)(x:t.T):tyV t d x=[cV t d x]:=by
 cases t<;>first|rfl|cases h
def Hn:List Cl->Option Dy
 |[]=>some ⟨.unit,()⟩
 |y::l=>match y with
  |.c t _ x=>bif t.one then(match l with
   |[]=>some ⟨t,x⟩
   |_::_=>match Hn l with
    |some ⟨B,A⟩=>some ⟨.pair t B,(x,A)⟩
    |none=>none)else none
  |_=>none
theorem DV:∀(l:List Cl) (y:Dy),Hn l=some y->tyV y.t 0 y.x=(l.map Cl.v0).map frz:=by
 intro l
 induction l with
 |nil=>intro y h;cases h;rfl
 |cons a l H=>
  intro y h;unfold Hn at h;split at h
  case h_2=>cases h
  rename_i t d x;obtain⟨U,h⟩:=A1 h
  have A:[frz (cV t d x)]=tyV t 0 x:=by
   have:=Ba t d x;rw[Bm U]at this;simpa using this
  split at h
  .cases h
   exact A.symm
  .rename_i b Y
   split at h
   case h_2=>cases h
   rename_i F B W;cases h;show tyV t 0 x++tyV F 0 B=frz (cV t d x)::_;rw[H _ W,<-A];rfl
def WR(s:St):Option TI->Nat->Option Sl->Option TR
 |some i,k,some (.one (.c (.ptr t) 0 x))=>
  match i.flds[k]? with
  |some (off,fs)=>match Hn (((Ar t 0 x).drop off).take fs)with
   |some ⟨B,A⟩=>bif ble (off+fs) t.w then some (.ok (.one (.c (.ptr B) 0 A)))else none
   |none=>none
  |none=>none
 |some i,k,some (.one (.rp id p j k0))=>
  match i.flds[k]? with
  |some (off,_)=>bif(Ac s.r id p).live&&blt (k0+off) (Ac s.r id p).w then some (.ok (.one (.rp id p j (k0+off))))else none
  |none=>none
 |some i,k,some (.pk .bx l)=>
  match i.flds[k]? with
  |some (off,fs)=>bif ble (off+fs) l.length&& !((l.drop off).take fs).any Cl.own then some (.ok (.pk .bx ((l.drop off).take fs)))else none
  |none=>none
 |_,_,_=>none
def Io(s:St):Option TI->Option Sl->Option Sl->Option TR
 |some i,some (.one (.c (.sl t) 0 xs)),some (.one (.c (.int _) _ n))=>
  bif beq t.w i.ty.w&&blt 0 i.ty.w then some (.cnd (0<=n/\n<ofN (IE xs)) inferInstance (.one (.c (.ptr t) 0 (Ado xs (K4 n) t.dflt))))else none
 |some i,some (.one (.rf id p)),some (.one (.c (.int _) _ n))=>
  match Ac s.r id p with
  |.arr _ t _ xs=>bif beq t.w i.ty.w&&blt 0 i.ty.w then some (.cnd (0<=n/\n<ofN (IE xs)) inferInstance (.one (.rp id p (K4 n) 0)))else none
  |_=>none
 |some i,some (.one (.rs id p off len)),some (.one (.c (.int _) _ n))=>
  match Ac s.r id p with
  |.arr _ t _ _=>bif beq t.w i.ty.w&&blt 0 i.ty.w then some (.cnd (0<=n/\n<ofN len) inferInstance (.one (.rp id p (off+K4 n) 0)))else none
  |_=>none
 |_,_,_=>none
def boolsL:List Cl->Option (List Bool)
 |[]=>some []
 |.c .bool _ b::l=>match boolsL l with
  |some bs=>some (b::bs)
  |none=>none
 |_=>none
def WQ(_:Option TI)(_ _:Option Sl):Option TR:=none
def tNil:Option Sl->Option TR
 |some (.one (.c (.ptr t) 0 x))=>some (.ok (.one (.c (.ptr t) 0 x)))
 |some (.one (.rp id p i k))=>some (.ok (.one (.rp id p i k)))
 |some (.pk .bx l)=>bif l.any Cl.own then none else some (.ok (.pk .bx l))
 |_=>none
def Abd:List Cl->List Cl->Option Bool
 |[],[]=>some true
 |.c (.int k) _ a::l,.c (.int k') _ b::m=>if k'=k then(match Abd l m with
  |some r=>some (YH (eqI a b) r)
  |none=>none)else none
 |.c .bool _ a::l,.c .bool _ b::m=>match Abd l m with
  |some r=>some (YH (eqB a b) r)
  |none=>none
 |.c .str _ a::l,.c .str _ b::m=>match Abd l m with
  |some r=>some (YH (eqS a b) r)
  |none=>none
 |_,_=>none
def kCs:List Nat->List Cl->Bool
 |[],[]=>true
 |k::ks,.c (.int _) _ _::l=>beq k 0&&kCs ks l
 |k::ks,.c .bool _ _::l=>beq k 1&&kCs ks l
 |k::ks,.c .str _ _::l=>beq k 2&&kCs ks l
 |_,_=>false
def tEq(op:BinOp)(r:Bool):Option TR:=match op with
 |.eql=>some (.ok (.one (.c .bool 0 r)))
 |.neq=>some (.ok (.one (.c .bool 0 (notB r))))
 |_=>none
def tsh(op:BinOp)(k:IntKind)(a b:Int):Option TR:=match op with
 |.shl=>some (.cnd (0<=b) inferInstance (.one (.c (.int k) 0 (Adi k a b))))
 |.shr=>some (.cnd (0<=b) inferInstance (.one (.c (.int k) 0 (AbW k a b))))
 |_=>none
def tBin(i:Option TI)(op:BinOp):Option Sl->Option Sl->Option TR
 |some (.one (.c .bool _ a)),some (.one (.c .bool _ b))=>match i with
  |some i=>(match i.eq with
   |some ks=>bif(match ks with
     |[k]=>beq k 9
     |_=>false)then tEq op (eqB a b)else none
   |none=>none)
  |none=>none
 |some (.agg l),some (.agg m)=>match i with
  |some i=>(match i.eq with
   |some ks=>bif kCs ks l&&kCs ks m then(match Abd l m with
    |some r=>tEq op r
    |none=>none)else none
   |none=>none)
  |none=>none
 |some (.one (.c (.int k) _ a)),some (.one (.c (.int k') _ b))=>match tsh op k a b with
  |some r=>some r
  |none=>if k'=k then match op with
   |.and=>some (.ok (.one (.c (.int k) 0 (andI k a b))))
   |.andNot=>some (.ok (.one (.c (.int k) 0 (bncI k a b))))
   |.add=>some (.ok (.one (.c (.int k) 0 (k.wrap (a+b)))))
   |.sub=>some (.ok (.one (.c (.int k) 0 (k.wrap (a-b)))))
   |.mul=>some (.ok (.one (.c (.int k) 0 (k.wrap (a*b)))))
   |.quo=>some (.cnd (b≠0) inferInstance (.one (.c (.int k) 0 (k.wrap (a.tdiv b)))))
   |.rem=>some (.cnd (b≠0) inferInstance (.one (.c (.int k) 0 (a.tmod b))))
   |.eql=>some (.ok (.one (.c .bool 0 (eqI a b))))
   |.neq=>some (.ok (.one (.c .bool 0 (neI a b))))
   |.lss=>some (.ok (.one (.c .bool 0 (ltI a b))))
   |.leq=>some (.ok (.one (.c .bool 0 (leI a b))))
   |.gtr=>some (.ok (.one (.c .bool 0 (ltI b a))))
   |.geq=>some (.ok (.one (.c .bool 0 (leI b a))))
   |_=>none
  else none
 |some (.one (.c .str _ a)),some (.one (.c .str _ b))=>match op with
   |.add=>some (.cnd ((PG a+PG b:Nat)<=9223372036854775807) inferInstance (.one (.c .str 0 (catS a b))))
   |.eql=>some (.ok (.one (.c .bool 0 (eqS a b))))
   |.neq=>some (.ok (.one (.c .bool 0 (neS a b))))
   |.lss=>some (.ok (.one (.c .bool 0 (ltS a b))))
   |_=>none
 |some (.one (.c (.sl _) 0 xs)),some (.one .nil)=>match i with
  |some i=>bif !i.str&&i.elem.isSome then(match op with
   |.eql=>some (.cnd (0<IE xs) inferInstance (.one (.c .bool 0 false)))
   |.neq=>some (.cnd (0<IE xs) inferInstance (.one (.c .bool 0 true)))
   |_=>none)else none
  |none=>none
 |_,_=>none
def tUn(op:UnOp):Option Sl->Option TR
 |some (.one (.c .bool _ b))=>match op with
  |.not=>some (.ok (.one (.c .bool 0 (notB b))))
  |_=>none
 |some (.one (.c (.int k) _ n))=>match op with
  |.neg=>some (.ok (.one (.c (.int k) 0 (k.wrap (0-n)))))
  |_=>none
 |_=>none
def AbP(r:List Aa):Option TI->Option TI->Option TI->Option TI->Option Sl->Option TR
 |some _,some j,_,_,some (.one (.c (.int _) _ n))=>match j.ik with
  |some k=>some (.ok (.one (.c (.int k) 0 (k.wrap n))))
  |none=>none
 |_,_,_,_,_=>none
def Mx(k:Nat):Option Sl->Option TR
 |some (.tup l)=>match l[k]? with
  |some (true,cs)=>bif cs.any Cl.own then none else some (.ok (.agg cs))
  |some (false,[c])=>bif c.own then none else some (.ok (.one c))
  |_=>none
 |_=>none
def slLen(s:St):Sl->Option Nat
 |.one (.c (.sl _) _ xs)=>some (IE xs)
 |.one .nil=>some 0
 |.one (.rf id p)=>some (Ac s.r id p).len
 |.one (.rs _ _ _ len)=>some len
 |_=>none
def tLen(s:St):Option TI->Option Sl->Option TR
 |some i,some y=>bif i.str then(match y with
   |.one (.c .str _ b)=>some (.ok (.one (.c (.int .i64) 0 (ofN (PG b)))))
   |_=>none)
  else bif i.elem.isSome then(match slLen s y with
   |some n=>some (.ok (.one (.c (.int .i64) 0 (ofN n))))
   |none=>none)
  else none
 |_,_=>none
def tMin:Option Sl->Option Sl->Option TR
 |some (.one (.c (.int k) _ x)),some (.one (.c (.int _) _ y))=>some (.ok (.one (.c (.int k) 0 (minI x y))))
 |_,_=>none
def tMax:Option Sl->Option Sl->Option TR
 |some (.one (.c (.int k) _ x)),some (.one (.c (.int _) _ y))=>some (.ok (.one (.c (.int k) 0 (maxI x y))))
 |_,_=>none
section sound
variable {P:Program}{Θ:Tab}{s:St}
theorem NV(F:Θ.OK P)(h:WR s (Θ.look t) k (s.ev x)=some a):QS P s (.fieldAddr t x k) a.y:=by
 unfold WR at h;split at h
 case h_4=>cases h
 .rename_i i Z Y hi U
  split at h
  case h_2=>cases h
  rename_i off fs W;split at h
  case h_2=>cases h
  rename_i t2 x2 hd;obtain⟨A,h⟩:=A1 h;have A:=blE A;cases h;show J0 (VS P t _) (s.r.map Aa.v) (s.den.ev x) (SK s _);rw[F.fld hi W,Bg U];refine⟨by rw[Ax];exact A,?_⟩
  have e:=DV _ _ hd;rw[map_take,map_drop,Br,map_take,map_drop,Ba]at e;show Sub _ (A3 false (tyV t2 0 x2));rw[e];show Sub (V.nd false false fs 1 λi k=>([tyV Z 0 Y].getD i []).getD (off+k) .dead) (A3 false (((tyV Z 0 Y).drop off).take fs))
  unfold A3;have hl:(((tyV Z 0 Y).drop off).take fs).length=fs:=by rw[List.length_take,List.length_drop,Ax];omega
  rw[hl];refine⟨_,rfl,λi' k' hi' hk'=>?_⟩
  obtain rfl:i'=0:=by omega
  refine Sub.of_eq ?_;simp[List.getElem?_take,hk']
 .rename_i i id p j k0 hi U
  split at h
  case h_2=>cases h
  rename_i off fs W;obtain⟨A,h⟩:=A1 h;simp only[bAE]at A;cases h;show J0 (VS P t _) (s.r.map Aa.v) (s.den.ev x) (SK s _);rw[F.fld hi W,Bg U];refine⟨by rw[Cd A.1];exact blE A.2,Sub.refl _⟩
 .rename_i i l hi U
  split at h
  case h_2=>cases h
  rename_i off fs W;obtain⟨A,h⟩:=A1 h;cases h;simp only[bAE,Bool.not_eq_true']at A;have hb1:=blE A.1;show J0 (VS P t _) (s.r.map Aa.v) (s.den.ev x) (SK s _);rw[F.fld hi W,Bg U];have hl:((l.drop off).take fs).length=fs:=by simp;omega
  have B:∀k,k<fs->((l.drop off).take fs).getD k .dead=l.getD (off+k) .dead:=λk H=>by simp[List.getElem?_take,H]
  have hv:∀k,(l.map (Cl.v s.r)).getD (off+k) .dead=(l.getD (off+k) .dead).v s.r:=λk=>Aw (f:=Cl.v s.r) (a:=.dead) rfl _ _
  show(off+fs<=(l.map (Cl.v s.r)).length/\((List.range fs).all λk=>!AJ ((l.map (Cl.v s.r)).getD (off+k) .dead))=true)/\Sub (V.many .bx fs λk=>(l.map (Cl.v s.r)).getD (off+k) .dead) (boxL (((l.drop off).take fs).map (Cl.v s.r)))
  refine⟨⟨by simpa using hb1,?_⟩,?_⟩
  .rw[aET]
   intro k H;have H:=List.mem_range.1 H;show(!AJ ((l.map (Cl.v s.r)).getD (off+k) .dead))=true;rw[hv,Cl.own_v,<-B k H]
   have h2:=List.any_eq_false.1 A.2 (((l.drop off).take fs).getD k .dead) (by
    rw[gDE,gEE (by omega)]
    exact List.getElem_mem _)
   simpa using h2
  .show Sub _ (V.many .bx _ _)
   rw[List.length_map,hl];refine⟨_,rfl,λk H=>Sub.of_eq ?_⟩
   show(l.map (Cl.v s.r)).getD (off+k) .dead=_;rw[hv,Aw (f:=Cl.v s.r) (a:=.dead) rfl,B k H]
theorem IS{a b:Nat}{c:Bool}(h:(beq a b&&c)=true):a=b/\c=true:=by simp_all
theorem Mb(h:blt 0 n=true):0<n:=by simp_all
theorem DW(A:Θ.OK P){j:TI}(h:((Θ.look t).bind (·.elem)).bind Θ.look=some j):∃e,slI P t=some ⟨e,j.ty.w,j.bytes,BX j.ty⟩/\∃i,Θ.look t=some i/\i.elem=some e/\Θ.look e=some j:=by
 cases hi:Θ.look t with
 |none=>grind
 |some i=>
  rw[hi]at h;cases B:i.elem with
  |none=>grind
  |some e=>
   simp[B]at h;exact⟨e,A.elem hi B h,i,rfl,B,h⟩
theorem I9(U:Θ.OK P)(h:Io s (((Θ.look t).bind (·.elem)).bind Θ.look) (s.ev x) (s.ev i)=some a)(hp:a.p):QS P s (.indexAddr t x i) a.y:=by
 unfold Io at h;split at h
 case h_4=>cases h
 .rename_i j H xs _ _ n hj Y hi
  obtain⟨e,A,_⟩:=DW U hj;obtain⟨Z,h⟩:=A1 h;cases h;obtain⟨W,B⟩:=IS Z;have B:=Mb B;obtain⟨p1,p2⟩:0<=n/\n<xs.length:=hp;show B1 (slI P t) (s.r.map Aa.v) (s.den.ev x) (s.den.ev i) (SK s _);rw[A,Bg Y,Bg hi];refine⟨W,by rw[W];exact B,⟨p1,p2⟩,?_⟩
  show Sub (V.nd false false H.w 1 λ_ k=>(tyV H 0 (xs.getD n.toNat H.dflt)).getD k .dead) (A3 false (tyV H 0 (xs.getD n.toNat H.dflt)))
  unfold A3;rw[Ax];refine⟨_,rfl,λi k hi _=>?_⟩
  obtain rfl:i=0:=by omega
  exact Sub.refl _
 .rename_i j id p _ _ n hj Y hi
  obtain⟨e,A,_⟩:=DW U hj;split at h
  case h_2=>cases h
  rename_i ro H d xs F;have hne:Ac s.r id p≠.dead:=by rw[F];simp
  obtain⟨Z,h⟩:=A1 h;cases h;obtain⟨W,B⟩:=IS Z;have B:=Mb B;obtain⟨p1,p2⟩:0<=n/\n<xs.length:=hp;show B1 (slI P t) (s.r.map Aa.v) (s.den.ev x) (s.den.ev i) (SK s _);rw[A,Bg Y,Bg hi];have hl:(Ac s.r id p).len=xs.length:=by rw[F];rfl
  refine⟨by rw[Cd (by rw[F];rfl),F];exact W,B,⟨p1,by rw[hl];exact p2⟩,?_⟩
  show Sub (V.rp id p (0+n.toNat) 0) (V.rp id p n.toNat 0);rw[Nat.zero_add];exact Sub.refl _
 .rename_i j id p off len _ _ n hj Y hi
  obtain⟨e,A,_⟩:=DW U hj;split at h
  case h_2=>cases h
  rename_i ro H d xs F;have hne:Ac s.r id p≠.dead:=by rw[F];simp
  obtain⟨Z,h⟩:=A1 h;cases h;obtain⟨W,B⟩:=IS Z;have B:=Mb B;show B1 (slI P t) (s.r.map Aa.v) (s.den.ev x) (s.den.ev i) (SK s _);rw[A,Bg Y,Bg hi];exact⟨by rw[Cd (by rw[F];rfl),F];exact W,B,hp,Sub.refl _⟩
def NT(A:Θ.OK P)(h:WQ (Θ.look t) (s.ev x) (s.ev i)=some a)(B:a.p):QS P s (.index t x i) a.y:=by
 unfold WQ at h;cases h
theorem U5(h:tNil (s.ev x)=some a):QS P s (.nilCheck x) a.y:=by
 unfold tNil at h;split at h<;>try grind
 .rename_i A
  cases h;show Ab8 (s.den.ev x) (SK s _);rw[Bg A];exact Sub.refl _
 .rename_i A
  cases h;show Ab8 (s.den.ev x) (SK s _);rw[Bg A];rfl
 .rename_i l A
  cases B:l.any Cl.own with
  |true=>grind
  |false=>
   rw[B]at h;cases h;show Ab8 (s.den.ev x) (SK s _);rw[Bg A];refine⟨?_,Sub.refl _⟩;show AJ (Sl.v s.r (.pk .bx l))=false;rw[Sl.own_v]
   trivial
theorem X1{l:List Cl}:∀{ks:List Nat},kCs ks l=true->ks≠[9]:=by
 rintro ks h rfl
 cases l with
 |nil=>cases h
 |cons y l=>
  cases y<;>try trivial
  rename_i t d x;cases t<;>cases h
def UC(r:List Aa):∀(ks:List Nat) (l m:List Cl) (z:Bool),kCs ks l=true->kCs ks m=true->Abd l m=some z->
  ∃va F:List Value,l.map (Cl.v r)=va.map V.c/\m.map (Cl.v r)=F.map V.c/\okL ks va F=true/\Qu va F=z
 |[],[],[],z,_,_,h=>by cases h;exact⟨[],[],rfl,rfl,rfl,rfl⟩
 |[],[],_::_,_,_,h,_=>by cases h
 |[],_::_,_,_,h,_,_=>by cases h
 |_::_,[],_,_,h,_,_=>by cases h
 |_::_,_::_,[],_,_,h,_=>by cases h
 |k::ks,a::l,b::m,z,A,hm,h=>by
  cases a<;>try (cases A;done)
  cases b<;>try (cases hm;done)
  rename_i t d x t' d' B;cases t<;>try (cases A;done)
  .rename_i q
   cases t'<;>try (cases h;done)
   rename_i H
   have h:(if H=q then(match Abd l m with
    |some r=>some (YH (eqI x B) r)
    |none=>none)else none)=some z:=h
   split at h
   case isFalse=>cases h
   rename_i hq;subst hq;split at h
   case h_2=>cases h
   rename_i U Y;cases h;have A:(beq k 0&&kCs ks l)=true:=A;have hm:(beq k 0&&kCs ks m)=true:=hm;rw[bAE]at A hm;obtain⟨va,F,e1,e2,e3,Z⟩:=UC r ks l m U A.2 hm.2 Y;have W:=bqE A.1;subst W;refine⟨.int H x::va,.int H B::F,?_,?_,?_,?_⟩
   .rw[map_cons,map_cons,e1];rfl
   .rw[map_cons,map_cons,e2];rfl
   .show((kOf (.int H x)==some 0)&&(kOf (.int H B)==some 0)&&JR (.int H x) (.int H B)&&okL ks va F)=true
    rw[e3];simp[kOf,JR]
   .show(vEq (.int H x) (.int H B)&&Qu va F)=_
    rw[Z];rfl
  .cases t'<;>try (cases h;done)
   have h:(match Abd l m with
    |some r=>some (YH (eqB x B) r)
    |none=>none)=some z:=h
   split at h
   case h_2=>cases h
   rename_i U Y;cases h;have A:(beq k 1&&kCs ks l)=true:=A;have hm:(beq k 1&&kCs ks m)=true:=hm;rw[bAE]at A hm;obtain⟨va,F,e1,e2,e3,Z⟩:=UC r ks l m U A.2 hm.2 Y;have W:=bqE A.1;subst W;refine⟨.bool x::va,.bool B::F,?_,?_,?_,?_⟩
   .rw[map_cons,map_cons,e1];rfl
   .rw[map_cons,map_cons,e2];rfl
   .show((kOf (.bool x)==some 1)&&(kOf (.bool B)==some 1)&&JR (.bool x) (.bool B)&&okL ks va F)=true
    rw[e3];simp[kOf,JR]
   .show(vEq (.bool x) (.bool B)&&Qu va F)=_
    rw[Z];rfl
  .cases t'<;>try (cases h;done)
   have h:(match Abd l m with
    |some r=>some (YH (eqS x B) r)
    |none=>none)=some z:=h
   split at h
   case h_2=>cases h
   rename_i U Y;cases h;have A:(beq k 2&&kCs ks l)=true:=A;have hm:(beq k 2&&kCs ks m)=true:=hm;rw[bAE]at A hm;obtain⟨va,F,e1,e2,e3,Z⟩:=UC r ks l m U A.2 hm.2 Y;have W:=bqE A.1;subst W;refine⟨.string x::va,.string B::F,?_,?_,?_,?_⟩
   .rw[map_cons,map_cons,e1];rfl
   .rw[map_cons,map_cons,e2];rfl
   .show((kOf (.string x)==some 2)&&(kOf (.string B)==some 2)&&JR (.string x) (.string B)&&okL ks va F)=true
    rw[e3];simp[kOf,JR]
   .show(vEq (.string x) (.string B)&&Qu va F)=_
    rw[Z];rfl
theorem AaQ{D:Nat->Prop}{w:World}{R:V->Value->Prop}{cx:Value}{fp:Nat->Prop}(h:Rel D w R (Ah (va.map V.c)) cx fp):cx=.agg va.toArray:=by
 obtain⟨cs,F,e,A,B⟩:=h;subst e
 congr 1
 apply Array.ext
 .simp[A]
 .intro i U H
  have hi:=by simpa using H
  have:=B.1 i (by omega)
  have e:(va.map V.c).getD i .dead=.c va[i]:=by simp[hi]
  have this:Rel D w R ((va.map V.c).getD i .dead) (cs.getD i undef) (F i):=this;rw[e]at this;have h3:=this.1
  simp_all
def KG{a b:Bool}{k:List Nat}(H:Wh P t=some [9])(h:(op=.eql/\r=(a==b))\/(op=.neq/\r= !(a==b))):Ie P op t x y (.c (.bool a)) (.c (.bool b)) (.c (.bool r)):=by
 intro w D R cx U F B;obtain⟨rfl,_⟩:=F;obtain⟨rfl,_⟩:=B;refine⟨.bool r,?_,rfl,rfl,λ_ h=>h⟩
 have A:=VY w (a:=a) (b:=b) H;rcases h with⟨rfl,rfl⟩|⟨rfl,rfl⟩
 .simp[eqGuard,binOp,A]
 .simp[eqGuard,binOp,A]
def Me{A:List Value}{ks:List Nat}(Z:Wh P t=some ks)(Y:ks≠[9])(W:okL ks va A=true)(h:(op=.eql/\r=Qu va A)\/(op=.neq/\r= !Qu va A)):Ie P op t x y (Ah (va.map V.c)) (Ah (A.map V.c)) (.c (.bool r)):=by
 intro w D R cx cy F B;have F:=AaQ F;have B:=AaQ B;subst F;subst B;refine⟨.bool r,?_,rfl,rfl,λ_ h=>h⟩
 obtain⟨U,H⟩:=Yo w Z Y W;rcases h with⟨rfl,rfl⟩|⟨rfl,rfl⟩
 .simp[eqGuard,binOp,U,H]
 .simp[eqGuard,binOp,U,H]
def Mp(va:List Value):AJ (Ah (va.map V.c))=false:=by
 rw[WN,List.any_map,List.any_eq_false];simp[AJ]
theorem Md{sz:Nat}{f:Nat->Nat->V}(A:ND P t=.slice)(hn:0<n)(Y:(op=.eql/\r=false)\/(op=.neq/\r=true)):Ie P op t x y (.nd true false sz n f) (.c (.slice none 0 0)) (.c (.bool r)):=by
 intro w D R cx Z W B;have H:∃e,P.underlying t=some (.slice e):=by
  unfold ND at A;split at A
  .cases A
  .exact⟨_,by assumption⟩
  .cases A
 obtain⟨e,H⟩:=H;rcases W with⟨h0,_⟩|⟨b,o,cap,F,rfl,_⟩
 .omega
 have B:Z=.slice none 0 0:=B.1;subst B;refine⟨.bool r,?_,rfl,rfl,λ_ h=>h⟩
 have U:(Op.equal t (.slice (some ⟨b,o,none⟩) n cap) (.slice none 0 0)).run P w=.ok false w:=by
  unfold Op.equal;rw[show Op.maxDepth=9999+1 from rfl]
  unfold Op.equalIn;simp[run_underlying H]
 rcases Y with⟨rfl,rfl⟩|⟨rfl,rfl⟩
 .simp[Av,eqGuard,binOp,U]
 .simp[Av,eqGuard,binOp,U]
theorem Vf{Θ:Tab}{s:St}(W:Θ.OK P){yt:TypeId}(h:tBin (Θ.look t) op (s.ev x) (s.ev y)=some a)(hp:a.p):QS P s (.binOp op t x y yt) a.y:=by
 unfold tBin at h;split at h
 case h_6=>cases h
 rotate_left 4
 .rename_i t1 xs F B
  split at h
  case h_2=>cases h
  rename_i i hi;cases A:(!i.str&&i.elem.isSome)with
  |false=>rw[A]at h;cases h
  |true=>
   rw[A]at h;simp only[bAE,Bool.not_eq_true']at A;have hln:ND P t=.slice:=by
    rw[W.ln hi,A.1];obtain⟨e,he⟩:=Option.isSome_iff_exists.1 A.2;rw[he];rfl
   simp only[cond_true]at h;show Vx P op t x y (s.den.ev x) (s.den.ev y) (SK s _);rw[Bg F,Bg B];show ∃z,Ie P op t x y (.nd true false t1.w xs.length λi k=>(tyV t1 0 (xs.getD i t1.dflt)).getD k .dead) (.c (.slice none 0 0)) z/\_/\_/\SK s _ z
   split at h
   .cases h
    exact⟨.c (.bool false),Md hln hp (.inl ⟨rfl,rfl⟩),rfl,rfl,Sub.refl _⟩
   .cases h
    exact⟨.c (.bool true),Md hln hp (.inr ⟨rfl,rfl⟩),rfl,rfl,Sub.refl _⟩
   .cases h
 .rename_i _ U _ b' F B
  split at h
  case h_2=>cases h
  rename_i i hi;split at h
  case h_2=>cases h
  rename_i ks Y;have Z:Wh P t=some ks:=by rw[W.eq hi,Y]
  obtain⟨A,h⟩:=A1 h;have e9:ks=[9]:=by
   split at A
   .rw[bqE A]
   .cases A
  subst e9;show Vx P op t x y (s.den.ev x) (s.den.ev y) (SK s _);rw[Bg F,Bg B];show ∃z,Ie P op t x y (.c (.bool U)) (.c (.bool b')) z/\_/\_/\SK s _ z;unfold tEq at h;simp only[cond_true]at h;split at h
  .cases h
   exact⟨.c (.bool (U==b')),KG (k:=[]) Z (.inl ⟨rfl,rfl⟩),rfl,rfl,Sub.refl _⟩
  .cases h
   exact⟨.c (.bool (!(U==b'))),KG (k:=[]) Z (.inr ⟨rfl,rfl⟩),rfl,rfl,Sub.refl _⟩
  .cases h
 .rename_i l m F B
  split at h
  case h_2=>cases h
  rename_i i hi;split at h
  case h_2=>cases h
  rename_i ks Y;have Z:Wh P t=some ks:=by rw[W.eq hi,Y]
  cases A:(kCs ks l&&kCs ks m)with
  |false=>rw[A]at h;cases h
  |true=>
   rw[A]at h;rw[bAE]at A;simp only[cond_true]at h;split at h
   case h_2=>cases h
   rename_i r H;obtain⟨va,vb,e1,e2,e3,e4⟩:=UC s.r ks l m r A.1 A.2 H;show Vx P op t x y (s.den.ev x) (s.den.ev y) (SK s _);rw[Bg F,Bg B];show ∃z,Ie P op t x y (Ah (l.map (Cl.v s.r))) (Ah (m.map (Cl.v s.r))) z/\AJ (Ah (l.map (Cl.v s.r)))=false/\AJ (Ah (m.map (Cl.v s.r)))=false/\SK s _ z;rw[e1,e2];unfold tEq at h;split at h
   .cases h
    exact⟨.c (.bool r),Me Z (X1 A.1) e3 (.inl ⟨rfl,e4.symm⟩),Mp _,Mp _,Sub.refl _⟩
   .cases h
    exact⟨.c (.bool (!r)),Me Z (X1 A.1) e3 (.inr ⟨rfl,by rw[e4]⟩),Mp _,Mp _,Sub.refl _⟩
   .cases h
 .rename_i k _ U k' _ b F B
  show Vx P op t x y (s.den.ev x) (s.den.ev y) (SK s _);rw[Bg F,Bg B];show Vx P op t x y (.c (.int k U)) (.c (.int k' b)) (SK s _);unfold Vx Abw;split at h
  .rename_i r H
   cases h;unfold tsh at H;split at H<;>cases H
   .exact⟨hp,Sub.refl _⟩
   .exact⟨hp,Sub.refl _⟩
  rename_i H;have hv:vsh op k U b=none:=by
   unfold tsh at H;unfold vsh;split at H<;>first|(cases H;done)|skip
   split<;>first|rfl|(exfalso;simp_all)
  split at h
  case isFalse=>cases h
  rename_i Z;subst Z;simp only[hv,if_true];split at h<;>first|(cases h;done)|(cases h;exact⟨trivial,Sub.refl _⟩)|(cases h;exact⟨hp,Sub.refl _⟩)
 .rename_i _ U _ b F B
  show Vx P op t x y (s.den.ev x) (s.den.ev y) (SK s _);rw[Bg F,Bg B];show Vx P op t x y (.c (.string U)) (.c (.string b)) (SK s _);unfold Vx Abw;split at h<;>first|(cases h;done)|(cases h;exact⟨trivial,Sub.refl _⟩)|(cases h;exact⟨hp,Sub.refl _⟩)
theorem WE{op:UnOp}(h:tUn op (s.ev x)=some a):QS P s (.unOp op t x) a.y:=by
 unfold tUn at h;split at h
 case h_3=>grind
 all_goals
  rename_i A;split at h<;>try grind
  cases h;show qUn _ (s.den.ev x) (SK s _);rw[Bg A];exact Sub.refl _
theorem PE(A:Θ.OK P){u v:TypeId}(h:AbP s.r (Θ.look u) (Θ.look v) (((Θ.look u).bind (·.elem)).bind Θ.look) (((Θ.look v).bind (·.elem)).bind Θ.look) (s.ev x)=some a)(Y:a.p):QS P s (.convert u v x) a.y:=by
 unfold AbP at h
 have H:∀(t:TypeId) (i:TI),Θ.look t=some i->∃d,P.underlying t=some d:=by
  intro t i hi;have:=A.ty hi;unfold tyI at this;split at this
  .exact⟨_,by assumption⟩
  .cases this
 split at h
 case h_2=>cases h
 .rename_i i j _ _ _ _ n hi hj U
  split at h
  case h_2=>cases h
  rename_i k W;cases h;show Ol P (s.r.map Aa.v) u v (s.den.ev x) (SK s _);have B:cvI P u v=.int k:=by
   obtain⟨d,hd⟩:=H _ _ hi;have F:=A.ik hj;rw[W]at F;unfold ukI at F;split at F
   .rename_i k' hv;cases F;unfold cvI;simp[hd,hv]
   .cases F
  rw[Xw (by rw[B];intro h;cases h)]
  unfold Vu;rw[B,Bg U];exact Sub.refl _
theorem KW(h:Mx k (s.ev x)=some a):QS P s (.extract x k) a.y:=by
 unfold Mx at h;split at h
 case h_2=>cases h
 rename_i l U
 have key:∀(p:Bool×List Cl),l[k]? =some p->k<(l.map λp=>if p.1 then Ah (p.2.map (Cl.v s.r))else(p.2.map (Cl.v s.r)).getD 0 .dead).length/\
   (l.map λp=>if p.1 then Ah (p.2.map (Cl.v s.r))else(p.2.map (Cl.v s.r)).getD 0 .dead).getD k .dead=if p.1 then Ah (p.2.map (Cl.v s.r))else(p.2.map (Cl.v s.r)).getD 0 .dead:=by
  grind
 split at h
 case h_3=>cases h
 .rename_i cs F
  obtain⟨H,B⟩:=key _ F;cases A:cs.any Cl.own with
  |true=>rw[A]at h;cases h
  |false=>
   rw[A]at h;cases h;show Cs (s.den.ev x) k (SK s _);rw[Bg U];refine⟨H,?_,?_⟩
   .show AJ ((l.map _).getD k .dead)=false
    rw[B];show AJ (Ah _)=false;rw[Nz,A]
   .show SK s _ ((l.map _).getD k .dead)
    rw[B];exact Sub.refl _
 .rename_i c F
  obtain⟨H,B⟩:=key _ F;cases A:c.own with
  |true=>rw[A]at h;cases h
  |false=>
   rw[A]at h;cases h;show Cs (s.den.ev x) k (SK s _);rw[Bg U];refine⟨H,?_,?_⟩
   .show AJ ((l.map _).getD k .dead)=false
    rw[B];show AJ (c.v s.r)=false;rw[Cl.own_v,A]
   .show SK s _ ((l.map _).getD k .dead)
    rw[B];exact Sub.refl _
theorem Vb(B:Θ.OK P)(h:tLen s (Θ.look t) (s.ev x)=some a):QS P s (.call ⟨.builtin .len,#[x],#[t]⟩) a.y:=by
 have A:∀y,(Acx (ND P t) (s.den.ev x)=true/\qLen (s.den.ev x) (SK s y))->QS P s (.call ⟨.builtin .len,#[x],#[t]⟩) y:=λy h=>.inl h
 unfold tLen at h;split at h
 case h_2=>cases h
 rename_i i y hi W;cases H:i.str with
 |true=>
  rw[H]at h;split at h
  .rename_i b
   cases h;refine A _ ?_;rw[Bg W,B.ln hi,H];exact⟨rfl,Sub.refl _⟩
  .cases h
 |false=>
  rw[H]at h;cases U:i.elem with
  |none=>rw[U]at h;cases h
  |some e=>
   rw[U]at h;simp only[cond_false,cond_true]at h;split at h
   .rename_i n F
    cases h;refine A _ ?_;rw[Bg W,B.ln hi,H,U];unfold slLen at F;split at F<;>first|(cases F;done)|(cases F;exact⟨rfl,Sub.refl _⟩)
   .cases h
theorem U8(h:tMin (s.ev x) (s.ev y)=some a):QS P s (.call ⟨.builtin .min,#[x,y],ats⟩) a.y:=by
 unfold tMin at h;split at h<;>try grind
 rename_i B A;cases h;show DK .min (s.den.ev x) (s.den.ev y) (SK s _);rw[Bg B,Bg A];exact Sub.refl _
theorem U9(h:tMax (s.ev x) (s.ev y)=some a):QS P s (.call ⟨.builtin .max,#[x,y],ats⟩) a.y:=by
 unfold tMax at h;split at h<;>try grind
 rename_i B A;cases h;show DK .max (s.den.ev x) (s.den.ev y) (SK s _);rw[Bg B,Bg A];exact Sub.refl _
end sound
end Go.Ve


namespace Go.Ve
variable{x:Operand}{a:TR}{t:TypeId}
def PA(_:St)(_:Option TI)(_ _:Option Sl)(_:Bool):Option TR:=none
def AbO(_:St)(_:Option TI)(_:Option Sl):Option TR:=none
section
variable {P:Program}{Θ:Tab}{s:St}
def Mt(B:Θ.OK P){k:Operand}{A:Bool}(h:PA s (Θ.look t) (s.ev x) (s.ev k) A=some a):QS P s (.lookup t x k A) a.y:=by
 unfold PA at h;cases h
def PC(A:Θ.OK P)(h:AbO s (Θ.look t) (s.ev x)=some a):QS P s (.call ⟨.builtin .len,#[x],#[t]⟩) a.y:=by
 unfold AbO at h;cases h
end
theorem Cl.v_lens{r r':List Aa}(h:∀id q,(Ac r' id q).len=(Ac r id q).len)(y:Cl):y.v r'=y.v r:=by
 cases y with
 |rf id p=>show V.rs id p 0 _=V.rs id p 0 _;grind
 |_=>rfl
theorem Sl.v_lens{r r':List Aa}(h:∀id q,(Ac r' id q).len=(Ac r id q).len)(y:Sl):y.v r'=y.v r:=by
 have e:=funext λc=>Cl.v_lens h c
 cases y with
 |one c=>exact Cl.v_lens h c
 |new l=>rfl
 |agg l=>show Ah _=Ah _;grind
 |tup l=>show Dj _=Dj _;grind
 |pk t l=>show pkL t _=pkL t _;grind
end Go.Ve

