/- The typed machine: addresses, arithmetic, texts, slices of slices, new memory. -/
import Derived.Test.YtmmmafnkggaknaaGreatTb
set_option linter.all false
namespace Go.Ve
variable{ats:Array TypeId}{op:BinOp}{r:Bool}{va:List Value}{k n:Nat}{i x y:Operand}{P:Program}{a:TR}{t:TypeId}
structure Dy where
 t:Ty
 x:t.T
def Ty.one:Ty->Bool
 |.unit=>false
 |.pair _ _=>false
 |_=>true
def BM{t:Ty}(h:t.one=true)(d:Nat)(x:t.T):tyV t d x=[cV t d x]:=by
 cases t<;>first|rfl|cases h
def Ha:List Cl->Option Dy
 |[]=>some ⟨.unit,()⟩
 |y::l=>match y with
  |.c t _ x=>bif t.one then(match l with
   |[]=>some ⟨t,x⟩
   |_::_=>match Ha l with
    |some ⟨u,e⟩=>some ⟨.pair t u,(x,e)⟩
    |none=>none)else none
  |_=>none
theorem DG:∀(l:List Cl) (y:Dy),Ha l=some y->tyV y.t 0 y.x=(l.map Cl.v0).map frz:=by
 intro l
 induction l with
 |nil=>intro y h;cases h;rfl
 |cons a l B=>
  intro y h;unfold Ha at h;split at h
  case h_2=>cases h
  rename_i t d x;obtain⟨E,h⟩:=Bb h
  have e:[frz (cV t d x)]=tyV t 0 x:=by
   have:=Bl t d x;rw[BM E]at this;simpa using this
  split at h
  .cases h
   exact e.symm
  .rename_i b U
   split at h
   case h_2=>cases h
   rename_i A u J;cases h;show tyV t 0 x++tyV A 0 u=frz (cV t d x)::_;rw[B _ J,<-e];rfl
def UG(s:St):Option TI->Nat->Option Sl->Option TR
 |some i,k,some (.one (.c (.ptr t) 0 x))=>
  match i.flds[k]? with
  |some (off,fs)=>match Ha (((AB t 0 x).drop off).take fs)with
   |some ⟨u,e⟩=>bif Nat.ble (off+fs) t.w then some (.ok (.one (.c (.ptr u) 0 e)))else none
   |none=>none
  |none=>none
 |some i,k,some (.one (.rp id p j k0))=>
  match i.flds[k]? with
  |some (off,_)=>bif(Ai s.r id p).live&&Nat.blt (k0+off) (Ai s.r id p).w then some (.ok (.one (.rp id p j (k0+off))))else none
  |none=>none
 |some i,k,some (.pk .bx l)=>
  match i.flds[k]? with
  |some (off,fs)=>bif Nat.ble (off+fs) l.length&& !((l.drop off).take fs).any Cl.own then some (.ok (.pk .bx ((l.drop off).take fs)))else none
  |none=>none
 |_,_,_=>none
def HW(s:St):Option TI->Option Sl->Option Sl->Option TR
 |some i,some (.one (.c (.sl t) 0 xs)),some (.one (.c (.int _) _ n))=>
  bif Nat.beq t.w i.ty.w&&Nat.blt 0 i.ty.w then some (.cnd (0<=n/\n<ofN (Ib xs)) inferInstance (.one (.c (.ptr t) 0 (AaI xs (J0 n) t.dflt))))else none
 |some i,some (.one (.rf id p)),some (.one (.c (.int _) _ n))=>
  match Ai s.r id p with
  |.arr _ t _ xs=>bif Nat.beq t.w i.ty.w&&Nat.blt 0 i.ty.w then some (.cnd (0<=n/\n<ofN (Ib xs)) inferInstance (.one (.rp id p (J0 n) 0)))else none
  |_=>none
 |some i,some (.one (.rs id p off len)),some (.one (.c (.int _) _ n))=>
  match Ai s.r id p with
  |.arr _ t _ _=>bif Nat.beq t.w i.ty.w&&Nat.blt 0 i.ty.w then some (.cnd (0<=n/\n<ofN len) inferInstance (.one (.rp id p (off+J0 n) 0)))else none
  |_=>none
 |_,_,_=>none
def boolsL:List Cl->Option (List Bool)
 |[]=>some []
 |.c .bool _ b::l=>match boolsL l with
  |some bs=>some (b::bs)
  |none=>none
 |_=>none
def UF(_:Option TI)(_ _:Option Sl):Option TR:=none
def tNil:Option Sl->Option TR
 |some (.one (.c (.ptr t) 0 x))=>some (.ok (.one (.c (.ptr t) 0 x)))
 |some (.one (.rp id p i k))=>some (.ok (.one (.rp id p i k)))
 |some (.pk .bx l)=>bif l.any Cl.own then none else some (.ok (.pk .bx l))
 |_=>none
def YC:List Cl->List Cl->Option Bool
 |[],[]=>some true
 |.c (.int k) _ a::l,.c (.int k') _ b::m=>if k'=k then(match YC l m with
  |some r=>some (AaL (eqI a b) r)
  |none=>none)else none
 |.c .bool _ a::l,.c .bool _ b::m=>match YC l m with
  |some r=>some (AaL (eqB a b) r)
  |none=>none
 |.c .str _ a::l,.c .str _ b::m=>match YC l m with
  |some r=>some (AaL (eqS a b) r)
  |none=>none
 |_,_=>none
def kCs:List Nat->List Cl->Bool
 |[],[]=>true
 |k::ks,.c (.int _) _ _::l=>Nat.beq k 0&&kCs ks l
 |k::ks,.c .bool _ _::l=>Nat.beq k 1&&kCs ks l
 |k::ks,.c .str _ _::l=>Nat.beq k 2&&kCs ks l
 |_,_=>false
def tEq(op:BinOp)(r:Bool):Option TR:=match op with
 |.eql=>some (.ok (.one (.c .bool 0 r)))
 |.neq=>some (.ok (.one (.c .bool 0 (notB r))))
 |_=>none
def tsh(op:BinOp)(k:IntKind)(a b:Int):Option TR:=match op with
 |.shl=>some (.cnd (0<=b) inferInstance (.one (.c (.int k) 0 (shlI k a b))))
 |.shr=>some (.cnd (0<=b) inferInstance (.one (.c (.int k) 0 (Zk k a b))))
 |_=>none
def tBin(i:Option TI)(op:BinOp):Option Sl->Option Sl->Option TR
 |some (.one (.c .bool _ a)),some (.one (.c .bool _ b))=>match i with
  |some i=>(match i.eq with
   |some ks=>bif(match ks with
     |[k]=>Nat.beq k 9
     |_=>false)then tEq op (eqB a b)else none
   |none=>none)
  |none=>none
 |some (.agg l),some (.agg m)=>match i with
  |some i=>(match i.eq with
   |some ks=>bif kCs ks l&&kCs ks m then(match YC l m with
    |some r=>tEq op r
    |none=>none)else none
   |none=>none)
  |none=>none
 |some (.one (.c (.int k) _ a)),some (.one (.c (.int k') _ b))=>match tsh op k a b with
  |some r=>some r
  |none=>if k'=k then match op with
   |.and=>some (.ok (.one (.c (.int k) 0 (YP k a b))))
   |.add=>some (.ok (.one (.c (.int k) 0 (k.wrap (a+b)))))
   |.sub=>some (.ok (.one (.c (.int k) 0 (k.wrap (a-b)))))
   |.mul=>some (.ok (.one (.c (.int k) 0 (k.wrap (a*b)))))
   |.quo=>some (.cnd (b≠0) inferInstance (.one (.c (.int k) 0 (k.wrap (a.tdiv b)))))
   |.rem=>some (.cnd (b≠0) inferInstance (.one (.c (.int k) 0 (a.tmod b))))
   |.eql=>some (.ok (.one (.c .bool 0 (eqI a b))))
   |.neq=>some (.ok (.one (.c .bool 0 (neI a b))))
   |.lss=>some (.ok (.one (.c .bool 0 (ltI a b))))
   |.leq=>some (.ok (.one (.c .bool 0 (leI a b))))
   |.gtr=>some (.ok (.one (.c .bool 0 (ltI b a))))
   |.geq=>some (.ok (.one (.c .bool 0 (leI b a))))
   |_=>none
  else none
 |some (.one (.c .str _ a)),some (.one (.c .str _ b))=>match op with
   |.add=>some (.cnd ((NY a+NY b:Nat)<=9223372036854775807) inferInstance (.one (.c .str 0 (catS a b))))
   |.eql=>some (.ok (.one (.c .bool 0 (eqS a b))))
   |.neq=>some (.ok (.one (.c .bool 0 (neS a b))))
   |.lss=>some (.ok (.one (.c .bool 0 (ltS a b))))
   |_=>none
 |some (.one (.c (.sl _) 0 xs)),some (.one .nil)=>match i with
  |some i=>bif !i.str&&i.elem.isSome then(match op with
   |.eql=>some (.cnd (0<Ib xs) inferInstance (.one (.c .bool 0 false)))
   |.neq=>some (.cnd (0<Ib xs) inferInstance (.one (.c .bool 0 true)))
   |_=>none)else none
  |none=>none
 |_,_=>none
def tUn(op:UnOp):Option Sl->Option TR
 |some (.one (.c .bool _ b))=>match op with
  |.not=>some (.ok (.one (.c .bool 0 (notB b))))
  |_=>none
 |some (.one (.c (.int k) _ n))=>match op with
  |.neg=>some (.ok (.one (.c (.int k) 0 (k.wrap (0-n)))))
  |_=>none
 |_=>none
def Zc(r:List Af):Option TI->Option TI->Option TI->Option TI->Option Sl->Option TR
 |some _,some j,_,_,some (.one (.c (.int _) _ n))=>match j.ik with
  |some k=>some (.ok (.one (.c (.int k) 0 (k.wrap n))))
  |none=>none
 |_,_,_,_,_=>none
def K8(k:Nat):Option Sl->Option TR
 |some (.tup l)=>match l[k]? with
  |some (true,cs)=>bif cs.any Cl.own then none else some (.ok (.agg cs))
  |some (false,[c])=>bif c.own then none else some (.ok (.one c))
  |_=>none
 |_=>none
def slLen(s:St):Sl->Option Nat
 |.one (.c (.sl _) _ xs)=>some (Ib xs)
 |.one .nil=>some 0
 |.one (.rf id p)=>some (Ai s.r id p).len
 |.one (.rs _ _ _ len)=>some len
 |_=>none
def tLen(s:St):Option TI->Option Sl->Option TR
 |some i,some y=>bif i.str then(match y with
   |.one (.c .str _ b)=>some (.ok (.one (.c (.int .i64) 0 (ofN (NY b)))))
   |_=>none)
  else bif i.elem.isSome then(match slLen s y with
   |some n=>some (.ok (.one (.c (.int .i64) 0 (ofN n))))
   |none=>none)
  else none
 |_,_=>none
def tMin:Option Sl->Option Sl->Option TR
 |some (.one (.c (.int k) _ x)),some (.one (.c (.int _) _ y))=>some (.ok (.one (.c (.int k) 0 (Yr x y))))
 |_,_=>none
def tMax:Option Sl->Option Sl->Option TR
 |some (.one (.c (.int k) _ x)),some (.one (.c (.int _) _ y))=>some (.ok (.one (.c (.int k) 0 (maxI x y))))
 |_,_=>none
section sound
variable {P:Program}{Θ:Tab}{s:St}
theorem Mk(B:Θ.OK P)(h:UG s (Θ.look t) k (s.ev x)=some a):QS P s (.fieldAddr t x k) a.y:=by
 unfold UG at h;split at h
 case h_4=>cases h
 .rename_i i t' Z U J
  split at h
  case h_2=>cases h
  rename_i off fs W;split at h
  case h_2=>cases h
  rename_i t2 x2 hd;obtain⟨u,h⟩:=Bb h;have u:=blE u;cases h;show Jl (QH P t _) (s.r.map Af.v) (s.den.ev x) (SK s _);rw[B.fld U W,Bh J];refine⟨by rw[Ay];exact u,?_⟩
  have e:=DG _ _ hd;rw[List.map_take,List.map_drop,BL,List.map_take,List.map_drop,Bl]at e;show Sub _ (Bj false (tyV t2 0 x2));rw[e];show Sub (V.nd false false fs 1 λi k=>([tyV t' 0 Z].getD i []).getD (off+k) .dead) (Bj false (((tyV t' 0 Z).drop off).take fs))
  unfold Bj;have hl:(((tyV t' 0 Z).drop off).take fs).length=fs:=by rw[List.length_take,List.length_drop,Ay];omega
  rw[hl];refine⟨_,rfl,λi' k' hi' hk'=>?_⟩
  obtain rfl:i'=0:=by omega
  refine Sub.of_eq ?_;simp[List.getElem?_take,hk']
 .rename_i i id p j k0 U J
  split at h
  case h_2=>cases h
  rename_i off fs W;obtain⟨u,h⟩:=Bb h;simp only[bAE]at u;cases h;show Jl (QH P t _) (s.r.map Af.v) (s.den.ev x) (SK s _);rw[B.fld U W,Bh J];refine⟨by rw[Ci u.1];exact blE u.2,Sub.refl _⟩
 .rename_i i l U J
  split at h
  case h_2=>cases h
  rename_i off fs W;obtain⟨u,h⟩:=Bb h;cases h;simp only[bAE,Bool.not_eq_true']at u;have hb1:=blE u.1;show Jl (QH P t _) (s.r.map Af.v) (s.den.ev x) (SK s _);rw[B.fld U W,Bh J];have hl:((l.drop off).take fs).length=fs:=by simp;omega
  have A:∀k,k<fs->((l.drop off).take fs).getD k .dead=l.getD (off+k) .dead:=λk E=>by simp[List.getElem?_take,E]
  have hv:∀k,(l.map (Cl.v s.r)).getD (off+k) .dead=(l.getD (off+k) .dead).v s.r:=λk=>AN (f:=Cl.v s.r) (a:=.dead) rfl _ _
  show(off+fs<=(l.map (Cl.v s.r)).length/\((List.range fs).all λk=>!AL ((l.map (Cl.v s.r)).getD (off+k) .dead))=true)/\Sub (V.many .bx fs λk=>(l.map (Cl.v s.r)).getD (off+k) .dead) (boxL (((l.drop off).take fs).map (Cl.v s.r)))
  refine⟨⟨by simpa using hb1,?_⟩,?_⟩
  .rw[aET]
   intro k E;have E:=List.mem_range.1 E;show(!AL ((l.map (Cl.v s.r)).getD (off+k) .dead))=true;rw[hv,Cl.own_v,<-A k E]
   have h2:=List.any_eq_false.1 u.2 (((l.drop off).take fs).getD k .dead) (by
    rw[gDE,gEE (by omega)]
    exact List.getElem_mem _)
   simpa using h2
  .show Sub _ (V.many .bx _ _)
   rw[List.length_map,hl];refine⟨_,rfl,λk E=>Sub.of_eq ?_⟩
   show(l.map (Cl.v s.r)).getD (off+k) .dead=_;rw[hv,AN (f:=Cl.v s.r) (a:=.dead) rfl,A k E]
theorem Im{a b:Nat}{c:Bool}(h:(Nat.beq a b&&c)=true):a=b/\c=true:=by simp_all
theorem KP(h:Nat.blt 0 n=true):0<n:=by simp_all
theorem DH(u:Θ.OK P){j:TI}(h:((Θ.look t).bind (·.elem)).bind Θ.look=some j):∃e,slI P t=some ⟨e,j.ty.w,j.bytes,B1 j.ty⟩/\∃i,Θ.look t=some i/\i.elem=some e/\Θ.look e=some j:=by
 cases B:Θ.look t with
 |none=>grind
 |some i=>
  rw[B]at h;cases A:i.elem with
  |none=>grind
  |some e=>
   simp[A]at h;exact⟨e,u.elem B A h,i,rfl,A,h⟩
theorem IB(J:Θ.OK P)(h:HW s (((Θ.look t).bind (·.elem)).bind Θ.look) (s.ev x) (s.ev i)=some a)(hp:a.p):QS P s (.indexAddr t x i) a.y:=by
 unfold HW at h;split at h
 case h_4=>cases h
 .rename_i j E xs _ _ n hj Z U
  obtain⟨e,u,_⟩:=DH J hj;obtain⟨hb,h⟩:=Bb h;cases h;obtain⟨W,A⟩:=Im hb;have A:=KP A;obtain⟨p1,p2⟩:0<=n/\n<xs.length:=hp;show B6 (slI P t) (s.r.map Af.v) (s.den.ev x) (s.den.ev i) (SK s _);rw[u,Bh Z,Bh U];refine⟨W,by rw[W];exact A,⟨p1,p2⟩,?_⟩
  show Sub (V.nd false false E.w 1 λ_ k=>(tyV E 0 (xs.getD n.toNat E.dflt)).getD k .dead) (Bj false (tyV E 0 (xs.getD n.toNat E.dflt)))
  unfold Bj;rw[Ay];refine⟨_,rfl,λi k U _=>?_⟩
  obtain rfl:i=0:=by omega
  exact Sub.refl _
 .rename_i j id p _ _ n hj Z U
  obtain⟨e,u,_⟩:=DH J hj;split at h
  case h_2=>cases h
  rename_i ro E d xs B;have hne:Ai s.r id p≠.dead:=by rw[B];simp
  obtain⟨hb,h⟩:=Bb h;cases h;obtain⟨W,A⟩:=Im hb;have A:=KP A;obtain⟨p1,p2⟩:0<=n/\n<xs.length:=hp;show B6 (slI P t) (s.r.map Af.v) (s.den.ev x) (s.den.ev i) (SK s _);rw[u,Bh Z,Bh U];have hl:(Ai s.r id p).len=xs.length:=by rw[B];rfl
  refine⟨by rw[Ci (by rw[B];rfl),B];exact W,A,⟨p1,by rw[hl];exact p2⟩,?_⟩
  show Sub (V.rp id p (0+n.toNat) 0) (V.rp id p n.toNat 0);rw[Nat.zero_add];exact Sub.refl _
 .rename_i j id p off len _ _ n hj Z U
  obtain⟨e,u,_⟩:=DH J hj;split at h
  case h_2=>cases h
  rename_i ro E d xs B;have hne:Ai s.r id p≠.dead:=by rw[B];simp
  obtain⟨hb,h⟩:=Bb h;cases h;obtain⟨W,A⟩:=Im hb;have A:=KP A;show B6 (slI P t) (s.r.map Af.v) (s.den.ev x) (s.den.ev i) (SK s _);rw[u,Bh Z,Bh U];exact⟨by rw[Ci (by rw[B];rfl),B];exact W,A,hp,Sub.refl _⟩
def Mi(e:Θ.OK P)(h:UF (Θ.look t) (s.ev x) (s.ev i)=some a)(u:a.p):QS P s (.index t x i) a.y:=by
 unfold UF at h;cases h
theorem PX(h:tNil (s.ev x)=some a):QS P s (.nilCheck x) a.y:=by
 unfold tNil at h;split at h<;>try grind
 .rename_i e
  cases h;show Zw (s.den.ev x) (SK s _);rw[Bh e];exact Sub.refl _
 .rename_i e
  cases h;show Zw (s.den.ev x) (SK s _);rw[Bh e];rfl
 .rename_i l e
  cases u:l.any Cl.own with
  |true=>grind
  |false=>
   rw[u]at h;cases h;show Zw (s.den.ev x) (SK s _);rw[Bh e];refine⟨?_,Sub.refl _⟩;show AL (Sl.v s.r (.pk .bx l))=false;rw[Sl.own_v]
   trivial
theorem VJ{l:List Cl}:∀{ks:List Nat},kCs ks l=true->ks≠[9]:=by
 rintro ks h rfl
 cases l with
 |nil=>cases h
 |cons y l=>
  cases y<;>try trivial
  rename_i t d x;cases t<;>cases h
def Px(r:List Af):∀(ks:List Nat) (l m:List Cl) (z:Bool),kCs ks l=true->kCs ks m=true->YC l m=some z->
  ∃va A:List Value,l.map (Cl.v r)=va.map V.c/\m.map (Cl.v r)=A.map V.c/\okL ks va A=true/\OJ va A=z
 |[],[],[],z,_,_,h=>by cases h;exact⟨[],[],rfl,rfl,rfl,rfl⟩
 |[],[],_::_,_,_,h,_=>by cases h
 |[],_::_,_,_,h,_,_=>by cases h
 |_::_,[],_,_,h,_,_=>by cases h
 |_::_,_::_,[],_,_,h,_=>by cases h
 |k::ks,a::l,b::m,z,e,B,h=>by
  cases a<;>try (cases e;done)
  cases b<;>try (cases B;done)
  rename_i t d x t' d' u;cases t<;>try (cases e;done)
  .rename_i q
   cases t'<;>try (cases h;done)
   rename_i E
   have h:(if E=q then(match YC l m with
    |some r=>some (AaL (eqI x u) r)
    |none=>none)else none)=some z:=h
   split at h
   case isFalse=>cases h
   rename_i hq;subst hq;split at h
   case h_2=>cases h
   rename_i J W;cases h;have e:(Nat.beq k 0&&kCs ks l)=true:=e;have B:(Nat.beq k 0&&kCs ks m)=true:=B;rw[bAE]at e B;obtain⟨va,A,e1,e2,e3,Z⟩:=Px r ks l m J e.2 B.2 W;have U:=bqE e.1;subst U;refine⟨.int E x::va,.int E u::A,?_,?_,?_,?_⟩
   .rw[List.map_cons,List.map_cons,e1];rfl
   .rw[List.map_cons,List.map_cons,e2];rfl
   .show((kOf (.int E x)==some 0)&&(kOf (.int E u)==some 0)&&Je (.int E x) (.int E u)&&okL ks va A)=true
    rw[e3];simp[kOf,Je]
   .show(vEq (.int E x) (.int E u)&&OJ va A)=_
    rw[Z];rfl
  .cases t'<;>try (cases h;done)
   have h:(match YC l m with
    |some r=>some (AaL (eqB x u) r)
    |none=>none)=some z:=h
   split at h
   case h_2=>cases h
   rename_i J W;cases h;have e:(Nat.beq k 1&&kCs ks l)=true:=e;have B:(Nat.beq k 1&&kCs ks m)=true:=B;rw[bAE]at e B;obtain⟨va,A,e1,e2,e3,Z⟩:=Px r ks l m J e.2 B.2 W;have U:=bqE e.1;subst U;refine⟨.bool x::va,.bool u::A,?_,?_,?_,?_⟩
   .rw[List.map_cons,List.map_cons,e1];rfl
   .rw[List.map_cons,List.map_cons,e2];rfl
   .show((kOf (.bool x)==some 1)&&(kOf (.bool u)==some 1)&&Je (.bool x) (.bool u)&&okL ks va A)=true
    rw[e3];simp[kOf,Je]
   .show(vEq (.bool x) (.bool u)&&OJ va A)=_
    rw[Z];rfl
  .cases t'<;>try (cases h;done)
   have h:(match YC l m with
    |some r=>some (AaL (eqS x u) r)
    |none=>none)=some z:=h
   split at h
   case h_2=>cases h
   rename_i J W;cases h;have e:(Nat.beq k 2&&kCs ks l)=true:=e;have B:(Nat.beq k 2&&kCs ks m)=true:=B;rw[bAE]at e B;obtain⟨va,A,e1,e2,e3,Z⟩:=Px r ks l m J e.2 B.2 W;have U:=bqE e.1;subst U;refine⟨.string x::va,.string u::A,?_,?_,?_,?_⟩
   .rw[List.map_cons,List.map_cons,e1];rfl
   .rw[List.map_cons,List.map_cons,e2];rfl
   .show((kOf (.string x)==some 2)&&(kOf (.string u)==some 2)&&Je (.string x) (.string u)&&okL ks va A)=true
    rw[e3];simp[kOf,Je]
   .show(vEq (.string x) (.string u)&&OJ va A)=_
    rw[Z];rfl
theorem Yh{D:Nat->Prop}{w:World}{R:V->Value->Prop}{cx:Value}{fp:Nat->Prop}(h:Rel D w R (An (va.map V.c)) cx fp):cx=.agg va.toArray:=by
 obtain⟨cs,F,e,hs,A⟩:=h;subst e
 congr 1
 apply Array.ext
 .simp[hs]
 .intro i J B
  have u:=by simpa using B
  have:=A.1 i (by omega)
  have e:(va.map V.c).getD i .dead=.c va[i]:=by simp[u]
  have this:Rel D w R ((va.map V.c).getD i .dead) (cs.getD i undef) (F i):=this;rw[e]at this;have E:=this.1
  simp_all
def JL{a b:Bool}{k:List Nat}(B:WE P t=some [9])(h:(op=.eql/\r=(a==b))\/(op=.neq/\r= !(a==b))):HQ P op t x y (.c (.bool a)) (.c (.bool b)) (.c (.bool r)):=by
 intro w D R cx E A u;obtain⟨rfl,_⟩:=A;obtain⟨rfl,_⟩:=u;refine⟨.bool r,?_,rfl,rfl,λ_ h=>h⟩
 have e:=QP w (a:=a) (b:=b) B;rcases h with⟨rfl,rfl⟩|⟨rfl,rfl⟩
 .simp[eqGuard,binOp,e]
 .simp[eqGuard,binOp,e]
def KT{e:List Value}{ks:List Nat}(W:WE P t=some ks)(U:ks≠[9])(J:okL ks va e=true)(h:(op=.eql/\r=OJ va e)\/(op=.neq/\r= !OJ va e)):HQ P op t x y (An (va.map V.c)) (An (e.map V.c)) (.c (.bool r)):=by
 intro w D R cx Z A u;have A:=Yh A;have u:=Yh u;subst A;subst u;refine⟨.bool r,?_,rfl,rfl,λ_ h=>h⟩
 obtain⟨E,B⟩:=V3 w W U J;rcases h with⟨rfl,rfl⟩|⟨rfl,rfl⟩
 .simp[eqGuard,binOp,E,B]
 .simp[eqGuard,binOp,E,B]
def K5(va:List Value):AL (An (va.map V.c))=false:=by
 rw[UD,List.any_map,List.any_eq_false];simp[AL]
theorem KR{sz:Nat}{f:Nat->Nat->V}(u:L8 P t=.slice)(Z:0<n)(U:(op=.eql/\r=false)\/(op=.neq/\r=true)):HQ P op t x y (.nd true false sz n f) (.c (.slice none 0 0)) (.c (.bool r)):=by
 intro w D R cx W J A;have B:∃e,P.underlying t=some (.slice e):=by
  unfold L8 at u;split at u
  .cases u
  .exact⟨_,by assumption⟩
  .cases u
 obtain⟨e,B⟩:=B;rcases J with⟨h0,_⟩|⟨b,o,cap,F,rfl,_⟩
 .omega
 have A:W=.slice none 0 0:=A.1;subst A;refine⟨.bool r,?_,rfl,rfl,λ_ h=>h⟩
 have E:(Op.equal t (.slice (some ⟨b,o,none⟩) n cap) (.slice none 0 0)).run P w=.ok false w:=by
  unfold Op.equal;rw[show Op.maxDepth=9999+1 from rfl]
  unfold Op.equalIn;simp[run_underlying B]
 rcases U with⟨rfl,rfl⟩|⟨rfl,rfl⟩
 .simp[AC,eqGuard,binOp,E]
 .simp[AC,eqGuard,binOp,E]
theorem P8{Θ:Tab}{s:St}(U:Θ.OK P){yt:TypeId}(h:tBin (Θ.look t) op (s.ev x) (s.ev y)=some a)(hp:a.p):QS P s (.binOp op t x y yt) a.y:=by
 unfold tBin at h;split at h
 case h_6=>cases h
 rotate_left 4
 .rename_i t1 xs B A
  split at h
  case h_2=>cases h
  rename_i i hi;cases u:(!i.str&&i.elem.isSome)with
  |false=>rw[u]at h;cases h
  |true=>
   rw[u]at h;simp only[bAE,Bool.not_eq_true']at u;have hln:L8 P t=.slice:=by
    rw[U.ln hi,u.1];obtain⟨e,he⟩:=Option.isSome_iff_exists.1 u.2;rw[he];rfl
   simp only[cond_true]at h;show Qo P op t x y (s.den.ev x) (s.den.ev y) (SK s _);rw[Bh B,Bh A];show ∃z,HQ P op t x y (.nd true false t1.w xs.length λi k=>(tyV t1 0 (xs.getD i t1.dflt)).getD k .dead) (.c (.slice none 0 0)) z/\_/\_/\SK s _ z
   split at h
   .cases h
    exact⟨.c (.bool false),KR hln hp (.inl ⟨rfl,rfl⟩),rfl,rfl,Sub.refl _⟩
   .cases h
    exact⟨.c (.bool true),KR hln hp (.inr ⟨rfl,rfl⟩),rfl,rfl,Sub.refl _⟩
   .cases h
 .rename_i _ J _ b' B A
  split at h
  case h_2=>cases h
  rename_i i hi;split at h
  case h_2=>cases h
  rename_i ks W;have Z:WE P t=some ks:=by rw[U.eq hi,W]
  obtain⟨u,h⟩:=Bb h;have e9:ks=[9]:=by
   split at u
   .rw[bqE u]
   .cases u
  subst e9;show Qo P op t x y (s.den.ev x) (s.den.ev y) (SK s _);rw[Bh B,Bh A];show ∃z,HQ P op t x y (.c (.bool J)) (.c (.bool b')) z/\_/\_/\SK s _ z;unfold tEq at h;simp only[cond_true]at h;split at h
  .cases h
   exact⟨.c (.bool (J==b')),JL (k:=[]) Z (.inl ⟨rfl,rfl⟩),rfl,rfl,Sub.refl _⟩
  .cases h
   exact⟨.c (.bool (!(J==b'))),JL (k:=[]) Z (.inr ⟨rfl,rfl⟩),rfl,rfl,Sub.refl _⟩
  .cases h
 .rename_i l m B A
  split at h
  case h_2=>cases h
  rename_i i hi;split at h
  case h_2=>cases h
  rename_i ks W;have Z:WE P t=some ks:=by rw[U.eq hi,W]
  cases u:(kCs ks l&&kCs ks m)with
  |false=>rw[u]at h;cases h
  |true=>
   rw[u]at h;rw[bAE]at u;simp only[cond_true]at h;split at h
   case h_2=>cases h
   rename_i r E;obtain⟨va,vb,e1,e2,e3,e4⟩:=Px s.r ks l m r u.1 u.2 E;show Qo P op t x y (s.den.ev x) (s.den.ev y) (SK s _);rw[Bh B,Bh A];show ∃z,HQ P op t x y (An (l.map (Cl.v s.r))) (An (m.map (Cl.v s.r))) z/\AL (An (l.map (Cl.v s.r)))=false/\AL (An (m.map (Cl.v s.r)))=false/\SK s _ z;rw[e1,e2];unfold tEq at h;split at h
   .cases h
    exact⟨.c (.bool r),KT Z (VJ u.1) e3 (.inl ⟨rfl,e4.symm⟩),K5 _,K5 _,Sub.refl _⟩
   .cases h
    exact⟨.c (.bool (!r)),KT Z (VJ u.1) e3 (.inr ⟨rfl,by rw[e4]⟩),K5 _,K5 _,Sub.refl _⟩
   .cases h
 .rename_i k _ J k' _ b B A
  show Qo P op t x y (s.den.ev x) (s.den.ev y) (SK s _);rw[Bh B,Bh A];show Qo P op t x y (.c (.int k J)) (.c (.int k' b)) (SK s _);unfold Qo YT;split at h
  .rename_i r E
   cases h;unfold tsh at E;split at E<;>cases E
   .exact⟨hp,Sub.refl _⟩
   .exact⟨hp,Sub.refl _⟩
  rename_i E;have hv:vsh op k J b=none:=by
   unfold tsh at E;unfold vsh;split at E<;>first|(cases E;done)|skip
   split<;>first|rfl|(exfalso;simp_all)
  split at h
  case isFalse=>cases h
  rename_i Z;subst Z;simp only[hv,if_true];split at h<;>first|(cases h;done)|(cases h;exact⟨trivial,Sub.refl _⟩)|(cases h;exact⟨hp,Sub.refl _⟩)
 .rename_i _ J _ b B A
  show Qo P op t x y (s.den.ev x) (s.den.ev y) (SK s _);rw[Bh B,Bh A];show Qo P op t x y (.c (.string J)) (.c (.string b)) (SK s _);unfold Qo YT;split at h<;>first|(cases h;done)|(cases h;exact⟨trivial,Sub.refl _⟩)|(cases h;exact⟨hp,Sub.refl _⟩)
theorem Uu{op:UnOp}(h:tUn op (s.ev x)=some a):QS P s (.unOp op t x) a.y:=by
 unfold tUn at h;split at h
 case h_3=>grind
 all_goals
  rename_i e;split at h<;>try grind
  cases h;show qUn _ (s.den.ev x) (SK s _);rw[Bh e];exact Sub.refl _
theorem NV(e:Θ.OK P){u v:TypeId}(h:Zc s.r (Θ.look u) (Θ.look v) (((Θ.look u).bind (·.elem)).bind Θ.look) (((Θ.look v).bind (·.elem)).bind Θ.look) (s.ev x)=some a)(hp:a.p):QS P s (.convert u v x) a.y:=by
 unfold Zc at h
 have E:∀(t:TypeId) (i:TI),Θ.look t=some i->∃d,P.underlying t=some d:=by
  intro t i J;have:=e.ty J;unfold tyI at this;split at this
  .exact⟨_,by assumption⟩
  .cases this
 split at h
 case h_2=>cases h
 .rename_i i j _ _ _ _ n J hj U
  split at h
  case h_2=>cases h
  rename_i k Z;cases h;show MN P (s.r.map Af.v) u v (s.den.ev x) (SK s _);have A:cvI P u v=.int k:=by
   obtain⟨d,hd⟩:=E _ _ J;have B:=e.ik hj;rw[Z]at B;unfold ukI at B;split at B
   .rename_i k' W;cases B;unfold cvI;simp[hd,W]
   .cases B
  rw[Vg (by rw[A];intro h;cases h)]
  unfold Ql;rw[A,Bh U];exact Sub.refl _
theorem JV(h:K8 k (s.ev x)=some a):QS P s (.extract x k) a.y:=by
 unfold K8 at h;split at h
 case h_2=>cases h
 rename_i l J
 have u:∀(p:Bool×List Cl),l[k]? =some p->k<(l.map λp=>if p.1 then An (p.2.map (Cl.v s.r))else(p.2.map (Cl.v s.r)).getD 0 .dead).length/\
   (l.map λp=>if p.1 then An (p.2.map (Cl.v s.r))else(p.2.map (Cl.v s.r)).getD 0 .dead).getD k .dead=if p.1 then An (p.2.map (Cl.v s.r))else(p.2.map (Cl.v s.r)).getD 0 .dead:=by
  grind
 split at h
 case h_3=>cases h
 .rename_i cs B
  obtain⟨E,A⟩:=u _ B;cases e:cs.any Cl.own with
  |true=>rw[e]at h;cases h
  |false=>
   rw[e]at h;cases h;show Cw (s.den.ev x) k (SK s _);rw[Bh J];refine⟨E,?_,?_⟩
   .show AL ((l.map _).getD k .dead)=false
    rw[A];show AL (An _)=false;rw[LZ,e]
   .show SK s _ ((l.map _).getD k .dead)
    rw[A];exact Sub.refl _
 .rename_i c B
  obtain⟨E,A⟩:=u _ B;cases e:c.own with
  |true=>rw[e]at h;cases h
  |false=>
   rw[e]at h;cases h;show Cw (s.den.ev x) k (SK s _);rw[Bh J];refine⟨E,?_,?_⟩
   .show AL ((l.map _).getD k .dead)=false
    rw[A];show AL (c.v s.r)=false;rw[Cl.own_v,e]
   .show SK s _ ((l.map _).getD k .dead)
    rw[A];exact Sub.refl _
theorem P5(A:Θ.OK P)(h:tLen s (Θ.look t) (s.ev x)=some a):QS P s (.call ⟨.builtin .len,#[x],#[t]⟩) a.y:=by
 have u:∀y,(ZW (L8 P t) (s.den.ev x)=true/\qLen (s.den.ev x) (SK s y))->QS P s (.call ⟨.builtin .len,#[x],#[t]⟩) y:=λy h=>h
 unfold tLen at h;split at h
 case h_2=>cases h
 rename_i i y W U;cases E:i.str with
 |true=>
  rw[E]at h;split at h
  .rename_i b
   cases h;refine u _ ?_;rw[Bh U,A.ln W,E];exact⟨rfl,Sub.refl _⟩
  .cases h
 |false=>
  rw[E]at h;cases J:i.elem with
  |none=>rw[J]at h;cases h
  |some e=>
   rw[J]at h;simp only[cond_false,cond_true]at h;split at h
   .rename_i n B
    cases h;refine u _ ?_;rw[Bh U,A.ln W,E,J];unfold slLen at B;split at B<;>first|(cases B;done)|(cases B;exact⟨rfl,Sub.refl _⟩)
   .cases h
theorem P0(h:tMin (s.ev x) (s.ev y)=some a):QS P s (.call ⟨.builtin .min,#[x,y],ats⟩) a.y:=by
 unfold tMin at h;split at h<;>try grind
 rename_i u e;cases h;show Dv .min (s.den.ev x) (s.den.ev y) (SK s _);rw[Bh u,Bh e];exact Sub.refl _
theorem P4(h:tMax (s.ev x) (s.ev y)=some a):QS P s (.call ⟨.builtin .max,#[x,y],ats⟩) a.y:=by
 unfold tMax at h;split at h<;>try grind
 rename_i u e;cases h;show Dv .max (s.den.ev x) (s.den.ev y) (SK s _);rw[Bh u,Bh e];exact Sub.refl _
end sound
end Go.Ve

