/- The typed machine: addresses, arithmetic, texts, slices of slices, new memory. -/
import Derived.Test.YtdhfaeiafmlhlaaTb
set_option linter.all false
namespace Go.Ve
variable{ats:Array TypeId}{op:BinOp}{r:Bool}{l:List Cl}{va:List Value}{k n:Nat}{i x y:Operand}{P:Program}{a:TR}{t:TypeId}
structure Dy where
 t:Ty
 x:t.T
def IP(t:Ty)(y:Dy):Option t.T:=if h:y.t=t then some (h▸y.x)else none
theorem Ht{t:Ty}{y:Dy}{x:t.T}(h:IP t y=some x):(⟨t,x⟩:Dy)=y:=by
 unfold IP at h;split at h
 .rename_i e;subst e;cases h;rfl
 grind
def Ty.one:Ty->Bool
 |.unit=>false
 |.pair _ _=>false
 |_=>true
def BL{t:Ty}(h:t.one=true)(d:Nat)(x:t.T):tyV t d x=[cV t d x]:=by
 cases t<;>first|rfl|cases h
def DD:List Cl->Option Dy
 |[]=>some ⟨.unit,()⟩
 |y::l=>match y with
  |.c t _ x=>bif t.one then(match l with
   |[]=>some ⟨t,x⟩
   |_::_=>match DD l with
    |some ⟨t',e⟩=>some ⟨.pair t t',(x,e)⟩
    |none=>none)else none
  |_=>none
theorem DX:∀(l:List Cl) (y:Dy),DD l=some y->tyV y.t 0 y.x=(l.map Cl.v0).map frz:=by
 intro l
 induction l with
 |nil=>intro y h;cases h;rfl
 |cons a l B=>
  intro y h;unfold DD at h;split at h
  case h_2=>cases h
  rename_i t d x;obtain⟨E,h⟩:=A9 h
  have e:[frz (cV t d x)]=tyV t 0 x:=by
   have:=Bg t d x;rw[BL E]at this;simpa using this
  split at h
  .cases h
   exact e.symm
  .rename_i b J
   split at h
   case h_2=>cases h
   rename_i t' A F;cases h;show tyV t 0 x++tyV t' 0 A=frz (cV t d x)::_;rw[B _ F,<-e];rfl
def W2(s:St):Option TI->Nat->Option Sl->Option TR
 |some i,k,some (.one (.c (.ptr t) 0 x))=>
  match i.flds[k]? with
  |some (off,fs)=>match DD (((As t 0 x).drop off).take fs)with
   |some ⟨t',e⟩=>bif Nat.ble (off+fs) t.w then some (.ok (.one (.c (.ptr t') 0 e)))else none
   |none=>none
  |none=>none
 |some i,k,some (.one (.rp id p j k0))=>
  match i.flds[k]? with
  |some (off,_)=>bif(Af s.r id p).live&&Nat.blt (k0+off) (Af s.r id p).w then some (.ok (.one (.rp id p j (k0+off))))else none
  |none=>none
 |some i,k,some (.pk .bx l)=>
  match i.flds[k]? with
  |some (off,fs)=>bif Nat.ble (off+fs) l.length&& !((l.drop off).take fs).any Cl.own then some (.ok (.pk .bx ((l.drop off).take fs)))else none
  |none=>none
 |_,_,_=>none
def Io(s:St):Option TI->Option Sl->Option Sl->Option TR
 |some i,some (.one (.c (.sl t) 0 xs)),some (.one (.c (.int _) _ n))=>
  bif Nat.beq t.w i.ty.w&&Nat.blt 0 i.ty.w then some (.cnd (0<=n/\n<ofN (HZ xs)) inferInstance (.one (.c (.ptr t) 0 (Ac1 xs (J8 n) t.dflt))))else none
 |some i,some (.one (.rf id p)),some (.one (.c (.int _) _ n))=>
  match Af s.r id p with
  |.arr _ t _ xs=>bif Nat.beq t.w i.ty.w&&Nat.blt 0 i.ty.w then some (.cnd (0<=n/\n<ofN (HZ xs)) inferInstance (.one (.rp id p (J8 n) 0)))else none
  |_=>none
 |some i,some (.one (.rs id p off len)),some (.one (.c (.int _) _ n))=>
  match Af s.r id p with
  |.arr _ t _ _=>bif Nat.beq t.w i.ty.w&&Nat.blt 0 i.ty.w then some (.cnd (0<=n/\n<ofN len) inferInstance (.one (.rp id p (off+J8 n) 0)))else none
  |_=>none
 |_,_,_=>none
def Pg:List Cl->Option (List Bool)
 |[]=>some []
 |.c .bool _ b::l=>match Pg l with
  |some bs=>some (b::bs)
  |none=>none
 |_=>none
def W1:Option TI->Option Sl->Option Sl->Option TR
 |some i,some (.one (.c .str _ s)),some (.one (.c (.int _) _ n))=>bif i.str then some (.cnd (0<=n/\n<ofN (MG s)) inferInstance (.one (.c (.int .u8) 0 (idxS s (J8 n)))))else none
 |some i,some (.agg l),some (.one (.c (.int _) _ n))=>bif Nat.blt 0 i.arr then(match Pg l with
  |some bs=>bif Nat.beq bs.length i.arr then some (.cnd (0<=n/\n<ofN i.arr) inferInstance (.one (.c .bool 0 (Ac1 bs (J8 n) false))))else none
  |none=>none)else none
 |_,_,_=>none
def tNil:Option Sl->Option TR
 |some (.one (.c (.ptr t) 0 x))=>some (.ok (.one (.c (.ptr t) 0 x)))
 |some (.one (.rp id p i k))=>some (.ok (.one (.rp id p i k)))
 |some (.pk .bx l)=>bif l.any Cl.own then none else some (.ok (.pk .bx l))
 |_=>none
def Abr:List Cl->List Cl->Option Bool
 |[],[]=>some true
 |.c (.int k) _ a::l,.c (.int k') _ b::m=>if k'=k then(match Abr l m with
  |some r=>some (AdB (eqI a b) r)
  |none=>none)else none
 |.c .bool _ a::l,.c .bool _ b::m=>match Abr l m with
  |some r=>some (AdB (eqB a b) r)
  |none=>none
 |.c .str _ a::l,.c .str _ b::m=>match Abr l m with
  |some r=>some (AdB (eqS a b) r)
  |none=>none
 |_,_=>none
def kCs:List Nat->List Cl->Bool
 |[],[]=>true
 |k::ks,.c (.int _) _ _::l=>Nat.beq k 0&&kCs ks l
 |k::ks,.c .bool _ _::l=>Nat.beq k 1&&kCs ks l
 |k::ks,.c .str _ _::l=>Nat.beq k 2&&kCs ks l
 |_,_=>false
def tEq(op:BinOp)(r:Bool):Option TR:=match op with
 |.eql=>some (.ok (.one (.c .bool 0 r)))
 |.neq=>some (.ok (.one (.c .bool 0 (notB r))))
 |_=>none
def tsh(op:BinOp)(k:IntKind)(a b:Int):Option TR:=match op with
 |.shl=>some (.cnd (0<=b) inferInstance (.one (.c (.int k) 0 (shlI k a b))))
 |.shr=>some (.cnd (0<=b) inferInstance (.one (.c (.int k) 0 (shrI k a b))))
 |_=>none
def tBin(i:Option TI)(op:BinOp):Option Sl->Option Sl->Option TR
 |some (.one (.c .bool _ a)),some (.one (.c .bool _ b))=>match i with
  |some i=>(match i.eq with
   |some ks=>bif(match ks with
     |[k]=>Nat.beq k 9
     |_=>false)then tEq op (eqB a b)else none
   |none=>none)
  |none=>none
 |some (.agg l),some (.agg m)=>match i with
  |some i=>(match i.eq with
   |some ks=>bif kCs ks l&&kCs ks m then(match Abr l m with
    |some r=>tEq op r
    |none=>none)else none
   |none=>none)
  |none=>none
 |some (.one (.c (.int k) _ a)),some (.one (.c (.int k') _ b))=>match tsh op k a b with
  |some r=>some r
  |none=>if k'=k then match op with
   |.and=>some (.ok (.one (.c (.int k) 0 (andI k a b))))
   |.add=>some (.ok (.one (.c (.int k) 0 (k.wrap (a+b)))))
   |.sub=>some (.ok (.one (.c (.int k) 0 (k.wrap (a-b)))))
   |.mul=>some (.ok (.one (.c (.int k) 0 (k.wrap (a*b)))))
   |.quo=>some (.cnd (b≠0) inferInstance (.one (.c (.int k) 0 (k.wrap (a.tdiv b)))))
   |.rem=>some (.cnd (b≠0) inferInstance (.one (.c (.int k) 0 (a.tmod b))))
   |.eql=>some (.ok (.one (.c .bool 0 (eqI a b))))
   |.neq=>some (.ok (.one (.c .bool 0 (neI a b))))
   |.lss=>some (.ok (.one (.c .bool 0 (ltI a b))))
   |.leq=>some (.ok (.one (.c .bool 0 (leI a b))))
   |.gtr=>some (.ok (.one (.c .bool 0 (ltI b a))))
   |.geq=>some (.ok (.one (.c .bool 0 (leI b a))))
   |_=>none
  else none
 |some (.one (.c .str _ a)),some (.one (.c .str _ b))=>match op with
   |.add=>some (.cnd ((MG a+MG b:Nat)<=9223372036854775807) inferInstance (.one (.c .str 0 (catS a b))))
   |.eql=>some (.ok (.one (.c .bool 0 (eqS a b))))
   |.neq=>some (.ok (.one (.c .bool 0 (neS a b))))
   |.lss=>some (.ok (.one (.c .bool 0 (ltS a b))))
   |_=>none
 |some (.one (.c (.sl _) 0 xs)),some (.one .nil)=>match i with
  |some i=>bif !i.str&&i.elem.isSome then(match op with
   |.eql=>some (.cnd (0<HZ xs) inferInstance (.one (.c .bool 0 false)))
   |.neq=>some (.cnd (0<HZ xs) inferInstance (.one (.c .bool 0 true)))
   |_=>none)else none
  |none=>none
 |_,_=>none
def tUn(op:UnOp):Option Sl->Option TR
 |some (.one (.c .bool _ b))=>match op with
  |.not=>some (.ok (.one (.c .bool 0 (notB b))))
  |_=>none
 |some (.one (.c (.int k) _ n))=>match op with
  |.neg=>some (.ok (.one (.c (.int k) 0 (k.wrap (0-n)))))
  |_=>none
 |_=>none
def u8r(r:List Ab):Sl->Option (List Int)
 |.one (.c (.sl (.int .u8)) _ xs)=>some xs
 |.one (.rf id p)=>match Af r id p with
  |.arr _ (.int .u8) _ xs=>some xs
  |_=>none
 |_=>none
def Ab3(r:List Ab):Option TI->Option TI->Option TI->Option TI->Option Sl->Option TR
 |some _,some j,_,_,some (.one (.c (.int _) _ n))=>match j.ik with
  |some k=>some (.ok (.one (.c (.int k) 0 (k.wrap n))))
  |none=>none
 |some i,some j,_,f,some (.one (.c .str _ b))=>match i.str,j.str with
  |true,true=>some (.ok (.one (.c .str 0 b)))
  |true,false=>match f.bind (·.ik)with
   |some .u8=>some (.cnd (MG b<=9223372036854775807) inferInstance (.one (.c (.sl (.int .u8)) 1 (Hl b))))
   |_=>none
  |_,_=>none
 |some i,some j,some e,_,some y=>match u8r r y,e.ik with
  |some xs,some .u8=>bif !i.str&&j.str then some (.ok (.one (.c .str 0 (strOfNums xs))))else none
  |_,_=>none
 |_,_,_,_,_=>none
def MC(k:Nat):Option Sl->Option TR
 |some (.tup l)=>match l[k]? with
  |some (true,cs)=>bif cs.any Cl.own then none else some (.ok (.agg cs))
  |some (false,[c])=>bif c.own then none else some (.ok (.one c))
  |_=>none
 |_=>none
def slLen(s:St):Sl->Option Nat
 |.one (.c (.sl _) _ xs)=>some (HZ xs)
 |.one .nil=>some 0
 |.one (.rf id p)=>some (Af s.r id p).len
 |.one (.rs _ _ _ len)=>some len
 |_=>none
def tLen(s:St):Option TI->Option Sl->Option TR
 |some i,some y=>bif i.str then(match y with
   |.one (.c .str _ b)=>some (.ok (.one (.c (.int .i64) 0 (ofN (MG b)))))
   |_=>none)
  else bif i.elem.isSome then(match slLen s y with
   |some n=>some (.ok (.one (.c (.int .i64) 0 (ofN n))))
   |none=>none)
  else none
 |_,_=>none
def tMin:Option Sl->Option Sl->Option TR
 |some (.one (.c (.int k) _ x)),some (.one (.c (.int _) _ y))=>some (.ok (.one (.c (.int k) 0 (minI x y))))
 |_,_=>none
def tMax:Option Sl->Option Sl->Option TR
 |some (.one (.c (.int k) _ x)),some (.one (.c (.int _) _ y))=>some (.ok (.one (.c (.int k) 0 (Adv x y))))
 |_,_=>none
section sound
variable {P:Program}{Θ:Tab}{s:St}
theorem NR(E:Θ.OK P)(h:W2 s (Θ.look t) k (s.ev x)=some a):QS P s (.fieldAddr t x k) a.y:=by
 unfold W2 at h;split at h
 case h_4=>cases h
 .rename_i i t' U hi J
  split at h
  case h_2=>cases h
  rename_i off fs O;split at h
  case h_2=>cases h
  rename_i t2 x2 hd;obtain⟨A,h⟩:=A9 h;have A:=blE A;cases h;show J1 (V4 P t _) (s.r.map Ab.v) (s.den.ev x) (SK s _);rw[E.fld hi O,A7 J];refine⟨by rw[Ay];exact A,?_⟩
  have e:=DX _ _ hd;rw[List.map_take,List.map_drop,BK,List.map_take,List.map_drop,Bg]at e;show Sub _ (Be false (tyV t2 0 x2));rw[e];show Sub (V.nd false false fs 1 λi k=>([tyV t' 0 U].getD i []).getD (off+k) .dead) (Be false (((tyV t' 0 U).drop off).take fs))
  unfold Be;have W:(((tyV t' 0 U).drop off).take fs).length=fs:=by rw[List.length_take,List.length_drop,Ay];omega
  rw[W];refine⟨_,rfl,λi' k' hi' Y=>?_⟩
  obtain rfl:i'=0:=by omega
  refine Sub.of_eq ?_;simp[List.getElem?_take,Y]
 .rename_i i id p j k0 hi J
  split at h
  case h_2=>cases h
  rename_i off fs O;obtain⟨A,h⟩:=A9 h;simp only[bAE]at A;cases h;show J1 (V4 P t _) (s.r.map Ab.v) (s.den.ev x) (SK s _);rw[E.fld hi O,A7 J];refine⟨by rw[Ci A.1];exact blE A.2,Sub.refl _⟩
 .rename_i i l hi J
  split at h
  case h_2=>cases h
  rename_i off fs O;obtain⟨A,h⟩:=A9 h;cases h;simp only[bAE,Bool.not_eq_true']at A;have Z:=blE A.1;show J1 (V4 P t _) (s.r.map Ab.v) (s.den.ev x) (SK s _);rw[E.fld hi O,A7 J];have W:((l.drop off).take fs).length=fs:=by simp;omega
  have B:∀k,k<fs->((l.drop off).take fs).getD k .dead=l.getD (off+k) .dead:=λk F=>by simp[List.getElem?_take,F]
  have hv:∀k,(l.map (Cl.v s.r)).getD (off+k) .dead=(l.getD (off+k) .dead).v s.r:=λk=>AE (f:=Cl.v s.r) (a:=.dead) rfl _ _
  show(off+fs<=(l.map (Cl.v s.r)).length/\((List.range fs).all λk=>!AM ((l.map (Cl.v s.r)).getD (off+k) .dead))=true)/\Sub (V.many .bx fs λk=>(l.map (Cl.v s.r)).getD (off+k) .dead) (boxL (((l.drop off).take fs).map (Cl.v s.r)))
  refine⟨⟨by simpa using Z,?_⟩,?_⟩
  .rw[aET]
   intro k F;have F:=List.mem_range.1 F;show(!AM ((l.map (Cl.v s.r)).getD (off+k) .dead))=true;rw[hv,Cl.own_v,<-B k F]
   have h2:=List.any_eq_false.1 A.2 (((l.drop off).take fs).getD k .dead) (by
    rw[gDE,gEE (by omega)]
    exact List.getElem_mem _)
   simpa using h2
  .show Sub _ (V.many .bx _ _)
   rw[List.length_map,W];refine⟨_,rfl,λk F=>Sub.of_eq ?_⟩
   show(l.map (Cl.v s.r)).getD (off+k) .dead=_;rw[hv,AE (f:=Cl.v s.r) (a:=.dead) rfl,B k F]
theorem IT{a b:Nat}{c:Bool}(h:(Nat.beq a b&&c)=true):a=b/\c=true:=by simp_all
theorem La(h:Nat.blt 0 n=true):0<n:=by simp_all
theorem Dh(A:Θ.OK P){j:TI}(h:((Θ.look t).bind (·.elem)).bind Θ.look=some j):∃e,slI P t=some ⟨e,j.ty.w,j.bytes,B0 j.ty⟩/\∃i,Θ.look t=some i/\i.elem=some e/\Θ.look e=some j:=by
 cases hi:Θ.look t with
 |none=>grind
 |some i=>
  rw[hi]at h;cases B:i.elem with
  |none=>grind
  |some e=>
   simp[B]at h;exact⟨e,A.elem hi B h,i,rfl,B,h⟩
theorem Ja(F:Θ.OK P)(h:Io s (((Θ.look t).bind (·.elem)).bind Θ.look) (s.ev x) (s.ev i)=some a)(W:a.p):QS P s (.indexAddr t x i) a.y:=by
 unfold Io at h;split at h
 case h_4=>cases h
 .rename_i j t' xs _ _ n hj O hi
  obtain⟨e,A,_⟩:=Dh F hj;obtain⟨U,h⟩:=A9 h;cases h;obtain⟨J,B⟩:=IT U;have B:=La B;obtain⟨p1,p2⟩:0<=n/\n<xs.length:=W;show B7 (slI P t) (s.r.map Ab.v) (s.den.ev x) (s.den.ev i) (SK s _);rw[A,A7 O,A7 hi];refine⟨J,by rw[J];exact B,⟨p1,p2⟩,?_⟩
  show Sub (V.nd false false t'.w 1 λ_ k=>(tyV t' 0 (xs.getD n.toNat t'.dflt)).getD k .dead) (Be false (tyV t' 0 (xs.getD n.toNat t'.dflt)))
  unfold Be;rw[Ay];refine⟨_,rfl,λi k hi _=>?_⟩
  obtain rfl:i=0:=by omega
  exact Sub.refl _
 .rename_i j id p _ _ n hj O hi
  obtain⟨e,A,_⟩:=Dh F hj;split at h
  case h_2=>cases h
  rename_i ro t' d xs E;have Y:Af s.r id p≠.dead:=by rw[E];simp
  obtain⟨U,h⟩:=A9 h;cases h;obtain⟨J,B⟩:=IT U;have B:=La B;obtain⟨p1,p2⟩:0<=n/\n<xs.length:=W;show B7 (slI P t) (s.r.map Ab.v) (s.den.ev x) (s.den.ev i) (SK s _);rw[A,A7 O,A7 hi];have Z:(Af s.r id p).len=xs.length:=by rw[E];rfl
  refine⟨by rw[Ci (by rw[E];rfl),E];exact J,B,⟨p1,by rw[Z];exact p2⟩,?_⟩
  show Sub (V.rp id p (0+n.toNat) 0) (V.rp id p n.toNat 0);rw[Nat.zero_add];exact Sub.refl _
 .rename_i j id p off len _ _ n hj O hi
  obtain⟨e,A,_⟩:=Dh F hj;split at h
  case h_2=>cases h
  rename_i ro t' d xs E;have Y:Af s.r id p≠.dead:=by rw[E];simp
  obtain⟨U,h⟩:=A9 h;cases h;obtain⟨J,B⟩:=IT U;have B:=La B;show B7 (slI P t) (s.r.map Ab.v) (s.den.ev x) (s.den.ev i) (SK s _);rw[A,A7 O,A7 hi];exact⟨by rw[Ci (by rw[E];rfl),E];exact J,B,W,Sub.refl _⟩
def UR:∀{l:List Cl}{bs:List Bool},Pg l=some bs->l.length=bs.length/\∀k r,k<bs.length->(l.getD k .dead).v r=.c (.bool (bs.getD k false))
 |[],bs,h=>by cases h;exact⟨rfl,λk r e=>absurd e (Nat.not_lt_zero _)⟩
 |.c .bool d b::l,bs,h=>by
  unfold Pg at h;split at h
  .rename_i F A
   cases h;obtain⟨E,B⟩:=UR A;refine⟨by simp[E],λk r e=>?_⟩
   cases k with
   |zero=>rfl
   |succ k=>exact B k r (by simpa using e)
  .cases h
def idxA{bs:List Bool}{r:List Ab}{m:Nat}{k:IntKind}{n:Int}(h:Pg l=some bs)(F:bs.length=m)(B:0<=n/\n<(m:Int)):Iu m (Ai (l.map (Cl.v r))) (.c (.int k n)) λA=>Sub A (.c (.bool (bs.getD n.toNat false))):=by
 obtain⟨O,J⟩:=UR h;have E:n.toNat<bs.length:=by omega
 have e:(l.map (Cl.v r)).getD n.toNat .dead=.c (.bool (bs.getD n.toNat false)):=by
  rw[<-J n.toNat r E,gDE,List.getElem?_map,gEE (by omega),gDE,gEE (by omega)];rfl
 refine⟨by rw[List.length_map,O,F],B,?_,?_⟩
 .show AM ((l.map (Cl.v r)).getD n.toNat .dead)=false
  rw[e];rfl
 .show Sub ((l.map (Cl.v r)).getD n.toNat .dead) _
  rw[e];exact Sub.refl _
theorem NP(e:Θ.OK P)(h:W1 (Θ.look t) (s.ev x) (s.ev i)=some a)(F:a.p):QS P s (.index t x i) a.y:=by
 unfold W1 at h;split at h
 case h_3=>grind
 .rename_i j _ b _ _ n hj B hi
  cases A:j.str with
  |false=>grind
  |true=>
   rw[A]at h;cases h;show(slK P t=.string/\Og (s.den.ev x) (s.den.ev i) (SK s _))\/_;rw[A7 B,A7 hi,e.sk hj,A];exact .inl ⟨rfl,F,Sub.refl _⟩
 .rename_i j l _ _ n hj B hi
  obtain⟨A,h⟩:=A9 h;split at h
  case h_2=>cases h
  rename_i bs E;obtain⟨J,h⟩:=A9 h;cases h;show _\/(0<arI P t/\Iu (arI P t) (s.den.ev x) (s.den.ev i) (SK s _));rw[A7 B,A7 hi,e.ar hj];exact .inr ⟨La A,idxA E (bqE J) F⟩
theorem U9(h:tNil (s.ev x)=some a):QS P s (.nilCheck x) a.y:=by
 unfold tNil at h;split at h<;>try grind
 .rename_i e
  cases h;show Acn (s.den.ev x) (SK s _);rw[A7 e];exact Sub.refl _
 .rename_i e
  cases h;show Acn (s.den.ev x) (SK s _);rw[A7 e];rfl
 .rename_i l e
  cases A:l.any Cl.own with
  |true=>grind
  |false=>
   rw[A]at h;cases h;show Acn (s.den.ev x) (SK s _);rw[A7 e];refine⟨?_,Sub.refl _⟩;show AM (Sl.v s.r (.pk .bx l))=false;rw[Sl.own_v]
   trivial
theorem Yd:∀{ks:List Nat},kCs ks l=true->ks≠[9]:=by
 rintro ks h rfl
 cases l with
 |nil=>cases h
 |cons y l=>
  cases y<;>try trivial
  rename_i t d x;cases t<;>cases h
def UC(r:List Ab):∀(ks:List Nat) (l m:List Cl) (z:Bool),kCs ks l=true->kCs ks m=true->Abr l m=some z->
  ∃va B:List Value,l.map (Cl.v r)=va.map V.c/\m.map (Cl.v r)=B.map V.c/\okL ks va B=true/\Hv va B=z
 |[],[],[],z,_,_,h=>by cases h;exact⟨[],[],rfl,rfl,rfl,rfl⟩
 |[],[],_::_,_,_,h,_=>by cases h
 |[],_::_,_,_,h,_,_=>by cases h
 |_::_,[],_,_,h,_,_=>by cases h
 |_::_,_::_,[],_,_,h,_=>by cases h
 |k::ks,a::l,b::m,z,e,E,h=>by
  cases a<;>try (cases e;done)
  cases b<;>try (cases E;done)
  rename_i t d x t' d' A;cases t<;>try (cases e;done)
  .rename_i q
   cases t'<;>try (cases h;done)
   rename_i F
   have h:(if F=q then(match Abr l m with
    |some r=>some (AdB (eqI x A) r)
    |none=>none)else none)=some z:=h
   split at h
   case isFalse=>cases h
   rename_i hq;subst hq;split at h
   case h_2=>cases h
   rename_i J U;cases h;have e:(Nat.beq k 0&&kCs ks l)=true:=e;have E:(Nat.beq k 0&&kCs ks m)=true:=E;rw[bAE]at e E;obtain⟨va,B,e1,Z,Y,W⟩:=UC r ks l m J e.2 E.2 U;have O:=bqE e.1;subst O;refine⟨.int F x::va,.int F A::B,?_,?_,?_,?_⟩
   .rw[List.map_cons,List.map_cons,e1];rfl
   .rw[List.map_cons,List.map_cons,Z];rfl
   .show((kOf (.int F x)==some 0)&&(kOf (.int F A)==some 0)&&Cs (.int F x) (.int F A)&&okL ks va B)=true
    rw[Y];simp[kOf,Cs]
   .show(vEq (.int F x) (.int F A)&&Hv va B)=_
    rw[W];rfl
  .cases t'<;>try (cases h;done)
   have h:(match Abr l m with
    |some r=>some (AdB (eqB x A) r)
    |none=>none)=some z:=h
   split at h
   case h_2=>cases h
   rename_i J U;cases h;have e:(Nat.beq k 1&&kCs ks l)=true:=e;have E:(Nat.beq k 1&&kCs ks m)=true:=E;rw[bAE]at e E;obtain⟨va,B,e1,Z,Y,W⟩:=UC r ks l m J e.2 E.2 U;have O:=bqE e.1;subst O;refine⟨.bool x::va,.bool A::B,?_,?_,?_,?_⟩
   .rw[List.map_cons,List.map_cons,e1];rfl
   .rw[List.map_cons,List.map_cons,Z];rfl
   .show((kOf (.bool x)==some 1)&&(kOf (.bool A)==some 1)&&Cs (.bool x) (.bool A)&&okL ks va B)=true
    rw[Y];simp[kOf,Cs]
   .show(vEq (.bool x) (.bool A)&&Hv va B)=_
    rw[W];rfl
  .cases t'<;>try (cases h;done)
   have h:(match Abr l m with
    |some r=>some (AdB (eqS x A) r)
    |none=>none)=some z:=h
   split at h
   case h_2=>cases h
   rename_i J U;cases h;have e:(Nat.beq k 2&&kCs ks l)=true:=e;have E:(Nat.beq k 2&&kCs ks m)=true:=E;rw[bAE]at e E;obtain⟨va,B,e1,Z,Y,W⟩:=UC r ks l m J e.2 E.2 U;have O:=bqE e.1;subst O;refine⟨.string x::va,.string A::B,?_,?_,?_,?_⟩
   .rw[List.map_cons,List.map_cons,e1];rfl
   .rw[List.map_cons,List.map_cons,Z];rfl
   .show((kOf (.string x)==some 2)&&(kOf (.string A)==some 2)&&Cs (.string x) (.string A)&&okL ks va B)=true
    rw[Y];simp[kOf,Cs]
   .show(vEq (.string x) (.string A)&&Hv va B)=_
    rw[W];rfl
theorem Aa1{D:Nat->Prop}{w:World}{R:V->Value->Prop}{cx:Value}{fp:Nat->Prop}(h:Rel D w R (Ai (va.map V.c)) cx fp):cx=.agg va.toArray:=by
 obtain⟨cs,F,e,A,B⟩:=h;subst e
 congr 1
 apply Array.ext
 .simp[A]
 .intro i O E
  have hi:=by simpa using E
  have:=B.1 i (by omega)
  have e:(va.map V.c).getD i .dead=.c va[i]:=by simp[hi]
  have this:Rel D w R ((va.map V.c).getD i .dead) (cs.getD i undef) (F i):=this;rw[e]at this;have J:=this.1
  simp_all
def KG{a b:Bool}{k:List Nat}(E:Nh P t=some [9])(h:(op=.eql/\r=(a==b))\/(op=.neq/\r= !(a==b))):Ie P op t x y (.c (.bool a)) (.c (.bool b)) (.c (.bool r)):=by
 intro w D R cx F B A;obtain⟨rfl,_⟩:=B;obtain⟨rfl,_⟩:=A;refine⟨.bool r,?_,rfl,rfl,λ_ h=>h⟩
 have e:=Wa w (a:=a) (b:=b) E;rcases h with⟨rfl,rfl⟩|⟨rfl,rfl⟩
 .simp[eqGuard,binOp,e]
 .simp[eqGuard,binOp,e]
def Mh{e:List Value}{ks:List Nat}(U:Nh P t=some ks)(O:ks≠[9])(J:okL ks va e=true)(h:(op=.eql/\r=Hv va e)\/(op=.neq/\r= !Hv va e)):Ie P op t x y (Ai (va.map V.c)) (Ai (e.map V.c)) (.c (.bool r)):=by
 intro w D R cx W B A;have B:=Aa1 B;have A:=Aa1 A;subst B;subst A;refine⟨.bool r,?_,rfl,rfl,λ_ h=>h⟩
 obtain⟨F,E⟩:=O3 w U O J;rcases h with⟨rfl,rfl⟩|⟨rfl,rfl⟩
 .simp[eqGuard,binOp,F,E]
 .simp[eqGuard,binOp,F,E]
def Mx(va:List Value):AM (Ai (va.map V.c))=false:=by
 rw[WZ,List.any_map,List.any_eq_false];simp[AM]
theorem Mg{sz:Nat}{f:Nat->Nat->V}(A:NB P t=.slice)(Y:0<n)(U:(op=.eql/\r=false)\/(op=.neq/\r=true)):Ie P op t x y (.nd true false sz n f) (.c (.slice none 0 0)) (.c (.bool r)):=by
 intro w D R cx W O B;have E:∃e,P.underlying t=some (.slice e):=by
  unfold NB at A;split at A
  .cases A
  .exact⟨_,by assumption⟩
  .cases A
 obtain⟨e,E⟩:=E;rcases O with⟨Z,_⟩|⟨b,o,cap,F,rfl,_⟩
 .omega
 have B:W=.slice none 0 0:=B.1;subst B;refine⟨.bool r,?_,rfl,rfl,λ_ h=>h⟩
 have J:(Op.equal t (.slice (some ⟨b,o,none⟩) n cap) (.slice none 0 0)).run P w=.ok false w:=by
  unfold Op.equal;rw[show Op.maxDepth=9999+1 from rfl]
  unfold Op.equalIn;simp[run_underlying E]
 rcases U with⟨rfl,rfl⟩|⟨rfl,rfl⟩
 .simp[AA,eqGuard,binOp,J]
 .simp[AA,eqGuard,binOp,J]
theorem Vj{Θ:Tab}{s:St}(O:Θ.OK P){yt:TypeId}(h:tBin (Θ.look t) op (s.ev x) (s.ev y)=some a)(Y:a.p):QS P s (.binOp op t x y yt) a.y:=by
 unfold tBin at h;split at h
 case h_6=>cases h
 rotate_left 4
 .rename_i t1 xs E B
  split at h
  case h_2=>cases h
  rename_i i hi;cases A:(!i.str&&i.elem.isSome)with
  |false=>rw[A]at h;cases h
  |true=>
   rw[A]at h;simp only[bAE,Bool.not_eq_true']at A;have Z:NB P t=.slice:=by
    rw[O.ln hi,A.1];obtain⟨e,he⟩:=Option.isSome_iff_exists.1 A.2;rw[he];rfl
   simp only[cond_true]at h;show VF P op t x y (s.den.ev x) (s.den.ev y) (SK s _);rw[A7 E,A7 B];show ∃z,Ie P op t x y (.nd true false t1.w xs.length λi k=>(tyV t1 0 (xs.getD i t1.dflt)).getD k .dead) (.c (.slice none 0 0)) z/\_/\_/\SK s _ z
   split at h
   .cases h
    exact⟨.c (.bool false),Mg Z Y (.inl ⟨rfl,rfl⟩),rfl,rfl,Sub.refl _⟩
   .cases h
    exact⟨.c (.bool true),Mg Z Y (.inr ⟨rfl,rfl⟩),rfl,rfl,Sub.refl _⟩
   .cases h
 .rename_i _ J _ b' E B
  split at h
  case h_2=>cases h
  rename_i i hi;split at h
  case h_2=>cases h
  rename_i ks U;have W:Nh P t=some ks:=by rw[O.eq hi,U]
  obtain⟨A,h⟩:=A9 h;have e9:ks=[9]:=by
   split at A
   .rw[bqE A]
   .cases A
  subst e9;show VF P op t x y (s.den.ev x) (s.den.ev y) (SK s _);rw[A7 E,A7 B];show ∃z,Ie P op t x y (.c (.bool J)) (.c (.bool b')) z/\_/\_/\SK s _ z;unfold tEq at h;simp only[cond_true]at h;split at h
  .cases h
   exact⟨.c (.bool (J==b')),KG (k:=[]) W (.inl ⟨rfl,rfl⟩),rfl,rfl,Sub.refl _⟩
  .cases h
   exact⟨.c (.bool (!(J==b'))),KG (k:=[]) W (.inr ⟨rfl,rfl⟩),rfl,rfl,Sub.refl _⟩
  .cases h
 .rename_i l m E B
  split at h
  case h_2=>cases h
  rename_i i hi;split at h
  case h_2=>cases h
  rename_i ks U;have W:Nh P t=some ks:=by rw[O.eq hi,U]
  cases A:(kCs ks l&&kCs ks m)with
  |false=>rw[A]at h;cases h
  |true=>
   rw[A]at h;rw[bAE]at A;simp only[cond_true]at h;split at h
   case h_2=>cases h
   rename_i r F;obtain⟨va,vb,e1,e2,e3,e4⟩:=UC s.r ks l m r A.1 A.2 F;show VF P op t x y (s.den.ev x) (s.den.ev y) (SK s _);rw[A7 E,A7 B];show ∃z,Ie P op t x y (Ai (l.map (Cl.v s.r))) (Ai (m.map (Cl.v s.r))) z/\AM (Ai (l.map (Cl.v s.r)))=false/\AM (Ai (m.map (Cl.v s.r)))=false/\SK s _ z;rw[e1,e2];unfold tEq at h;split at h
   .cases h
    exact⟨.c (.bool r),Mh W (Yd A.1) e3 (.inl ⟨rfl,e4.symm⟩),Mx _,Mx _,Sub.refl _⟩
   .cases h
    exact⟨.c (.bool (!r)),Mh W (Yd A.1) e3 (.inr ⟨rfl,by rw[e4]⟩),Mx _,Mx _,Sub.refl _⟩
   .cases h
 .rename_i k _ J k' _ b E B
  show VF P op t x y (s.den.ev x) (s.den.ev y) (SK s _);rw[A7 E,A7 B];show VF P op t x y (.c (.int k J)) (.c (.int k' b)) (SK s _);unfold VF AbK;split at h
  .rename_i r F
   cases h;unfold tsh at F;split at F<;>cases F
   .exact⟨Y,Sub.refl _⟩
   .exact⟨Y,Sub.refl _⟩
  rename_i F;have hv:vsh op k J b=none:=by
   unfold tsh at F;unfold vsh;split at F<;>first|(cases F;done)|skip
   split<;>first|rfl|(exfalso;simp_all)
  split at h
  case isFalse=>cases h
  rename_i W;subst W;simp only[hv,if_true];split at h<;>first|(cases h;done)|(cases h;exact⟨trivial,Sub.refl _⟩)|(cases h;exact⟨Y,Sub.refl _⟩)
 .rename_i _ J _ b E B
  show VF P op t x y (s.den.ev x) (s.den.ev y) (SK s _);rw[A7 E,A7 B];show VF P op t x y (.c (.string J)) (.c (.string b)) (SK s _);unfold VF AbK;split at h<;>first|(cases h;done)|(cases h;exact⟨trivial,Sub.refl _⟩)|(cases h;exact⟨Y,Sub.refl _⟩)
theorem WO{op:UnOp}(h:tUn op (s.ev x)=some a):QS P s (.unOp op t x) a.y:=by
 unfold tUn at h;split at h
 case h_3=>grind
 all_goals
  rename_i e;split at h<;>try grind
  cases h;show qUn _ (s.den.ev x) (SK s _);rw[A7 e];exact Sub.refl _
def Mo{f:Nat->V}{l:List Int}:∀(n:Nat),n<=l.length->(∀i,i<n->f i=.c (.int .u8 (l.getD i 0)))->Y8 f n=some (l.take n)
 |0,_,_=>rfl
 |n+1,hn,h=>by
  unfold Y8;rw[Mo n (by omega) (λi hi=>h i (by omega)),h n (by simp)]
  simp[show n<l.length by omega]
theorem u8r_v{r:List Ab}{y:Sl}{xs:List Int}(h:u8r r y=some xs):bytV (r.map Ab.v) (y.v r)=some xs/\∀k n,y.v r≠.c (.int k n):=by
 unfold u8r at h;split at h
 .cases h
  refine⟨?_,λk n e=>by cases e⟩
  exact(Mo (l:=xs) xs.length (Nat.le_refl _) λi hi=>rfl).trans (by simp)
 .rename_i id p
  split at h
  case h_2=>cases h
  rename_i ro d E B;cases h;refine⟨?_,λk n e=>by cases e⟩
  have A:Af r id p≠.dead:=by rw[B];simp
  show(match sub p ((r.map Ab.v).getD id .dead)with
   |.nd true true 1 n f=>if 0+(Af r id p).len<=n then Y8 (λi=>f (0+i) 0) (Af r id p).len else none
   |_=>none)=_
  rw[AV A,B];show(if 0+xs.length<=xs.length then Y8 _ xs.length else none)=_
  rw[if_pos (by omega)]
  exact(Mo (l:=xs) xs.length (Nat.le_refl _) λi hi=>by rw[Nat.zero_add];rfl).trans (by simp)
 .cases h
theorem PG(A:Θ.OK P){u v:TypeId}(h:Ab3 s.r (Θ.look u) (Θ.look v) (((Θ.look u).bind (·.elem)).bind Θ.look) (((Θ.look v).bind (·.elem)).bind Θ.look) (s.ev x)=some a)(hp:a.p):QS P s (.convert u v x) a.y:=by
 unfold Ab3 at h
 have und:∀(t:TypeId) (i:TI),Θ.look t=some i->∃d,P.underlying t=some d:=by
  intro t i hi;have:=A.ty hi;unfold tyI at this;split at this
  .exact⟨_,by assumption⟩
  .cases this
 split at h
 case h_4=>cases h
 .rename_i i j _ _ _ _ n hi hj Y
  split at h
  case h_2=>cases h
  rename_i k hk;cases h;show Dx P (s.r.map Ab.v) u v (s.den.ev x) (SK s _);have B:cvI P u v=.int k:=by
   obtain⟨d,hd⟩:=und _ _ hi;have J:=A.ik hj;rw[hk]at J;unfold ukI at J;split at J
   .rename_i k' Z;cases J;unfold cvI;simp[hd,Z]
   .cases J
  rw[J2 (by rw[B];intro h;cases h)]
  unfold Ok;rw[B,A7 Y];exact Sub.refl _
 .rename_i i j _ f _ b hi hj Y
  split at h
  .rename_i W hb2
   cases h;show Dx P (s.r.map Ab.v) u v (s.den.ev x) (SK s _);have B:cvI P u v=.string:=by
    have J:=JM (by have:=A.sk hi;rw[W]at this;exact this)
    have E:=JM (by have:=A.sk hj;rw[hb2]at this;exact this)
    unfold cvI;simp[J,E]
   rw[J2 (by rw[B];intro h;cases h)]
   unfold Ok;rw[B,A7 Y];exact Sub.refl _
  .rename_i W hb2
   split at h
   .rename_i F
    cases h;obtain⟨e,he,F⟩:=Option.bind_eq_some_iff.1 F;obtain⟨e',O,i2,_,_,U⟩:=Dh A he;obtain⟨g1,_⟩:=CS O;have E:=A.ik U;rw[F]at E;unfold ukI at E;split at E
    .rename_i k' Z
     cases E;have h3:=JM (by have:=A.sk hi;rw[W]at this;exact this)
     have B:cvB P u v=some e':=by unfold cvB;simp[h3,g1,Z]
     show Dx P (s.r.map Ab.v) u v (s.den.ev x) (SK s _);unfold Dx;rw[B,A7 Y];exact⟨hp,Sub.refl _⟩
    .cases E
   .cases h
  .cases h
 .rename_i i j e y _ _ hi hj he Y
  split at h
  case h_2=>cases h
  rename_i xs hu8 F;obtain⟨hb,h⟩:=A9 h;simp only[bAE]at hb;cases h;obtain⟨e',O,i2,_,_,U⟩:=Dh A he;obtain⟨J,_⟩:=CS O;have E:=A.ik U;rw[F]at E;unfold ukI at E;split at E
  .rename_i k' Z
   cases E;have h3:=JM (by have:=A.sk hj;rw[hb.2]at this;exact this)
   have B:cvI P u v=.bytes:=by unfold cvI;simp[J,h3,Z]
   obtain⟨g1,g2⟩:=u8r_v hu8;show Dx P (s.r.map Ab.v) u v (s.den.ev x) (SK s _);rw[J2 (by rw[B];intro h;cases h)]
   unfold Ok;rw[B,A7 Y]
   show(match bytV (s.r.map Ab.v) (y.v s.r)with
    |some l=>SK s (.one (.c .str 0 (strOfNums xs))) (.c (.string (strOfNums l)))
    |none=>False)
   rw[g1];exact Sub.refl _
  .cases E
theorem KX(h:MC k (s.ev x)=some a):QS P s (.extract x k) a.y:=by
 unfold MC at h;split at h
 case h_2=>cases h
 rename_i l F
 have key:∀(p:Bool×List Cl),l[k]? =some p->k<(l.map λp=>if p.1 then Ai (p.2.map (Cl.v s.r))else(p.2.map (Cl.v s.r)).getD 0 .dead).length/\
   (l.map λp=>if p.1 then Ai (p.2.map (Cl.v s.r))else(p.2.map (Cl.v s.r)).getD 0 .dead).getD k .dead=if p.1 then Ai (p.2.map (Cl.v s.r))else(p.2.map (Cl.v s.r)).getD 0 .dead:=by
  grind
 split at h
 case h_3=>cases h
 .rename_i cs B
  obtain⟨E,A⟩:=key _ B;cases e:cs.any Cl.own with
  |true=>rw[e]at h;cases h
  |false=>
   rw[e]at h;cases h;show Cv (s.den.ev x) k (SK s _);rw[A7 F];refine⟨E,?_,?_⟩
   .show AM ((l.map _).getD k .dead)=false
    rw[A];show AM (Ai _)=false;rw[Nx,e]
   .show SK s _ ((l.map _).getD k .dead)
    rw[A];exact Sub.refl _
 .rename_i c B
  obtain⟨E,A⟩:=key _ B;cases e:c.own with
  |true=>rw[e]at h;cases h
  |false=>
   rw[e]at h;cases h;show Cv (s.den.ev x) k (SK s _);rw[A7 F];refine⟨E,?_,?_⟩
   .show AM ((l.map _).getD k .dead)=false
    rw[A];show AM (c.v s.r)=false;rw[Cl.own_v,e]
   .show SK s _ ((l.map _).getD k .dead)
    rw[A];exact Sub.refl _
theorem Vg(B:Θ.OK P)(h:tLen s (Θ.look t) (s.ev x)=some a):QS P s (.call ⟨.builtin .len,#[x],#[t]⟩) a.y:=by
 have A:∀y,(AcN (NB P t) (s.den.ev x)=true/\qLen (s.den.ev x) (SK s y))->QS P s (.call ⟨.builtin .len,#[x],#[t]⟩) y:=λy h=>.inl h
 unfold tLen at h;split at h
 case h_2=>cases h
 rename_i i y hi O;cases F:i.str with
 |true=>
  rw[F]at h;split at h
  .rename_i b
   cases h;refine A _ ?_;rw[A7 O,B.ln hi,F];exact⟨rfl,Sub.refl _⟩
  .cases h
 |false=>
  rw[F]at h;cases J:i.elem with
  |none=>rw[J]at h;cases h
  |some e=>
   rw[J]at h;simp only[cond_false,cond_true]at h;split at h
   .rename_i n E
    cases h;refine A _ ?_;rw[A7 O,B.ln hi,F,J];unfold slLen at E;split at E<;>first|(cases E;done)|(cases E;exact⟨rfl,Sub.refl _⟩)
   .cases h
theorem Vc(h:tMin (s.ev x) (s.ev y)=some a):QS P s (.call ⟨.builtin .min,#[x,y],ats⟩) a.y:=by
 unfold tMin at h;split at h<;>try grind
 rename_i A e;cases h;show DK .min (s.den.ev x) (s.den.ev y) (SK s _);rw[A7 A,A7 e];exact Sub.refl _
theorem Vd(h:tMax (s.ev x) (s.ev y)=some a):QS P s (.call ⟨.builtin .max,#[x,y],ats⟩) a.y:=by
 unfold tMax at h;split at h<;>try grind
 rename_i A e;cases h;show DK .max (s.den.ev x) (s.den.ev y) (SK s _);rw[A7 A,A7 e];exact Sub.refl _
end sound
end Go.Ve


namespace Go.Ve
variable{r:List Ab}{x:Operand}{y:Option Sl}{a:TR}{k v:Ty}{t:TypeId}
def keyD(k:Ty):Option Sl->Option k.T
 |some (.one (.c t _ x))=>bif Dg k then none else IP k ⟨t,x⟩
 |some (.agg l)=>bif Dg k then(match DD l with
  |some y=>IP k y
  |none=>none)else none
 |_=>none
theorem flatK:∀(l:List Cl) (y:Dy),DD l=some y->I4 y.t=true->l.map (Cl.v r)=(AW y.t y.x).map V.c:=by
 have A:∀(t:Ty) (d:Nat) (x:t.T),t.one=true->I4 t=true->[(Cl.c t d x).v r]=(AW t x).map V.c:=by
  intro t d x W U;cases t<;>first|rfl|(cases W;done)|(cases U;done)
 intro l
 induction l with
 |nil=>intro y h _;cases h;rfl
 |cons a l J=>
  intro y h B;unfold DD at h;split at h
  case h_2=>cases h
  rename_i t d x;obtain⟨F,h⟩:=A9 h;split at h
  .cases h
   exact A t d x F B
  .rename_i b Y
   split at h
   case h_2=>cases h
   rename_i t' E O;cases h;have B:(I4 t&&I4 t')=true:=B;rw[bAE]at B;have e:AW (.pair t t') (x,E)=AW t x++AW t' E:=by simp[AW,tyV]
   rw[e,List.map_append,<-A t d x F B.1,<-J _ O B.2];rfl
theorem Ya{x:k.T}(A:I4 k=true)(h:keyD k y=some x):∃s,y=some s/\Abe (s.v r)=some (DE k x):=by
 unfold keyD at h;split at h
 case h_3=>cases h
 .rename_i t d F
  cases e:Dg k with
  |true=>rw[e]at h;cases h
  |false=>
   rw[e]at h;have h:=Ht h;cases h;refine⟨_,rfl,?_⟩;cases k<;>first|rfl|(cases e;done)|(cases A;done)
 .rename_i l
  cases e:Dg k with
  |false=>rw[e]at h;cases h
  |true=>
   rw[e]at h;simp only[cond_true]at h;split at h
   case h_2=>cases h
   rename_i E B;have h:=Ht h;cases h;refine⟨_,rfl,?_⟩;show Abe (Ai (l.map (Cl.v r)))=_;rw[flatK l _ B A,X9];unfold DE;rw[e];rfl
def entD(r:List Ab)(k v:Ty):Option Sl->Option (List (k.T×v.T))
 |some (.one (.rm id p))=>match Af r id p with
  |.mp _ k' v' xs=>IP (.mp k v) ⟨.mp k' v',xs⟩
  |_=>none
 |some (.one (.c (.mp k' v') _ xs))=>IP (.mp k v) ⟨.mp k' v',xs⟩
 |_=>none
theorem Abs{xs:List (k.T×v.T)}(h:entD r k v y=some xs):∃s,y=some s/\Ady (r.map Ab.v) (s.v r)=some (Qn k v xs):=by
 unfold entD at h;split at h
 case h_3=>cases h
 .rename_i id p
  split at h
  case h_2=>cases h
  rename_i ro k' v' A e;have h:=Ht h;cases h;refine⟨_,rfl,?_⟩
  show(match sub p ((r.map Ab.v).getD id .dead)with
   |.mp true l=>some l
   |_=>none)=_
  rw[AV (by rw[e];simp),e]
  rfl
 .have h:=Ht h
  cases h;exact⟨_,rfl,rfl⟩
def Zb(k v:Ty)(key:k.T)(xs:List (k.T×v.T)):v.T:=(BO k v key xs).getD v.dflt
def Wp(k v:Ty)(key:k.T)(xs:List (k.T×v.T)):Bool:=(BO k v key xs).isSome
def ansT(v:Ty)(co:Bool)(x:v.T)(b:Bool):Sl:=bif co then .tup [(Dg v,As v 0 x),(false,[.c .bool 0 b])]else slT v x
def PC(s:St)(i:Option TI)(e A:Option Sl)(co:Bool):Option TR:=match i with
 |some i=>match i.ty,i.mp with
  |.mp k v,some _=>bif I4 k&&I4 v then(match entD s.r k v e,keyD k A with
   |some xs,some key=>some (.ok (ansT v co (Zb k v key xs) (Wp k v key xs)))
   |_,_=>none)else none
  |_,_=>none
 |none=>none
def Ab2(s:St)(i:Option TI)(e:Option Sl):Option TR:=match i with
 |some i=>match i.ty,i.mp with
  |.mp k v,some _=>(match entD s.r k v e with
   |some xs=>some (.ok (.one (.c (.int .i64) 0 (ofN (HZ xs)))))
   |none=>none)
  |_,_=>none
 |none=>none
section
variable {P:Program}{Θ:Tab}{s:St}
theorem Mz(J:Θ.OK P){k:Operand}{co:Bool}(h:PC s (Θ.look t) (s.ev x) (s.ev k) co=some a):QS P s (.lookup t x k co) a.y:=by
 unfold PC at h;split at h
 case h_2=>cases h
 rename_i i hi;split at h
 case h_2=>cases h
 rename_i kt A q W Y;obtain⟨B,h⟩:=A9 h;rw[bAE]at B;split at h
 case h_2=>cases h
 rename_i xs key O E;cases h;obtain⟨sx,e1,e2⟩:=Abs O;obtain⟨sk,e3,e4⟩:=Ya (r:=s.r) B.1 E;have hm:=J.mp hi;rw[W]at hm;obtain⟨F,et',m1,m2,m3,m4⟩:=map_v B.1 B.2 hm (by rw[Y];simp)
 have hf:=Yv (v:=A) B.1 key xs;have U:=slT_v (r:=s.r) A ((BO kt A key xs).getD A.dflt) B.2
 have hd:(H3 (DE kt key) (Qn kt A xs)).getD (DE A A.dflt)=DE A ((BO kt A key xs).getD A.dflt):=by
  rw[hf];cases BO kt A key xs<;>rfl
 refine⟨F,et',_,_,_,m1,by rw[A7 e1];exact e2,by rw[A7 e3];exact e4,m2,m3 key,?_,by rw[hd];exact U.2,?_⟩
 .intro e he
  obtain⟨z,_,rfl⟩:=List.mem_map.1 he;exact m4 key z.1
 .rw[hd]
  show Sub _ (Sl.v s.r (ansT A co (Zb kt A key xs) (Wp kt A key xs)));have hs:(H3 (DE kt key) (Qn kt A xs)).isSome=(BO kt A key xs).isSome:=by rw[hf];cases BO kt A key xs<;>rfl
  rw[hs];unfold Zb Wp;cases co with
  |false=>exact Sub.of_eq U.1
  |true=>
   refine⟨_,rfl,λk hk=>Sub.of_eq ?_⟩
   have e:(if Dg A then Ai ((As A 0 ((BO kt A key xs).getD A.dflt)).map (Cl.v s.r))else((As A 0 ((BO kt A key xs).getD A.dflt)).map (Cl.v s.r)).getD 0 .dead)=Ado (DE A ((BO kt A key xs).getD A.dflt)):=by
    rw[U.1];unfold slT;cases ha:Dg A with
    |true=>rfl
    |false=>
     generalize (BO kt A key xs).getD A.dflt=z;have Z:=B.2;cases A<;>first|rfl|(cases ha;done)|(cases Z;done)
   match k,hk with
   |0,_=>exact e.symm
   |1,_=>rfl
theorem PF(B:Θ.OK P)(h:Ab2 s (Θ.look t) (s.ev x)=some a):QS P s (.call ⟨.builtin .len,#[x],#[t]⟩) a.y:=by
 unfold Ab2 at h;split at h
 case h_2=>cases h
 rename_i i hi;split at h
 case h_2=>cases h
 rename_i kt A q F J;split at h
 case h_2=>cases h
 rename_i xs E;cases h;obtain⟨Y,W,U⟩:=Abs E;have e:=B.mp hi;rw[F,J]at e;have O:∃q,Wq P t=some q:=by
  unfold mpI at e;split at e
  .exact⟨_,by assumption⟩
  .obtain⟨a,b⟩:=q;cases e
 refine .inr ⟨O,Qn kt A xs,?_,?_⟩
 .show Ady _ (s.den.ev x)=_
  rw[A7 W];exact U
 .have:(Qn kt A xs).length=xs.length:=by simp[Qn]
  show Sub (V.c (.int .i64 ((Qn kt A xs).length:Nat))) (V.c (.int .i64 (ofN (HZ xs))));rw[this];exact Sub.refl _
end
theorem Cl.v_lens{r':List Ab}(h:∀id q,(Af r' id q).len=(Af r id q).len)(y:Cl):y.v r'=y.v r:=by
 cases y with
 |rf id p=>show V.rs id p 0 _=V.rs id p 0 _;grind
 |_=>rfl
theorem Sl.v_lens{r r':List Ab}(h:∀id q,(Af r' id q).len=(Af r id q).len)(y:Sl):y.v r'=y.v r:=by
 have e:=funext λc=>Cl.v_lens h c
 cases y with
 |one c=>exact Cl.v_lens h c
 |new l=>rfl
 |agg l=>show Ai _=Ai _;grind
 |tup l=>show Dw _=Dw _;grind
 |pk t l=>show pkL t _=pkL t _;grind
def XW(ro:Bool)(k v:Ty)(x:List (k.T×v.T)):∀q:AX,((Ab.mp ro k v x).at' q).len=0
 |[]=>rfl
 |(i,j)::q=>by
  show(Ab.at' .dead q).len=0;rw[C8];rfl
theorem set_mp{id:Nat}{ro B:Bool}{x y:List (k.T×v.T)}(h:r.getD id .dead=.mp ro k v x)(A:Sl):A.v (r.set id (.mp B k v y))=A.v r:=by
 refine Sl.v_lens (λi q=>?_) A
 unfold Af;by_cases e:i=id
 .subst e
  rw[h,XW];by_cases E:i<r.length
  .rw[gDE,List.getElem?_set_self E];exact XW _ _ _ _ _
  .rw[List.set_eq_of_length_le (by omega),h,XW]
 .rw[gDE,List.getElem?_set_ne (Ne.symm e),<-gDE]
def PA(Θ:Tab)(s:St)(o:Oper):Option St:=match o.op,o.dst with
 |.mapUpdate t m k x,none=>match Θ.look t,s.ev m with
  |some i,some (.one (.rm id []))=>match i.ty,i.mp,s.r.getD id .dead with
   |.mp kt vt,some _,.mp false k' v' xs=>bif I4 kt&&I4 vt then(match IP (.mp kt vt) ⟨.mp k' v',xs⟩,keyD kt (s.ev k),keyD vt (s.ev x)with
    |some ys,some key,some y=>some ⟨s.t,s.r.set id (.mp false kt vt (Pr kt vt key y ys))⟩
    |_,_,_=>none)else none
   |_,_,_=>none
  |_,_=>none
 |_,_=>none
end Go.Ve

