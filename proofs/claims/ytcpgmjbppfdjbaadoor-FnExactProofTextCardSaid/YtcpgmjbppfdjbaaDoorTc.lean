/- The typed machine: addresses, arithmetic, texts, slices of slices, new memory. -/
import Derived.Test.YtcpgmjbppfdjbaaDoorTb
namespace Go.Ve
variable{ats:Array TypeId}{op:BinOp}{r:Bool}{l:List Cl}{va:List Value}{k n:Nat}{i x y:Operand}{P:Program}{a:TR}{t:TypeId}
structure Dy where
 t:Ty
 x:t.T
def Ty.one:Ty->Bool
 | .unit=>false
 | .pair _ _=>false
 |_=>true
theorem Bv{t:Ty}(h:t.one=true)(d:Nat)(x:t.T):tyV t d x= [cV t d x]:=by
 cases t<;>first|rfl|cases h
def DR:List Cl->Option Dy
 | []=>some ⟨.unit,()⟩
 |y::l=>match y with
  | .c t _ x=>bif t.one then(match l with
   | []=>some ⟨t,x⟩
   |_::_=>match DR l with
    |some ⟨t',x'⟩=>some ⟨.pair t t',(x,x')⟩
    |none=>none)else none
  |_=>none
theorem Du: ∀ (l:List Cl) (y:Dy),DR l=some y->tyV y.t 0 y.x=(l.map Cl.v0).map frz:=by
 intro l
 induction l with
 |nil=>intro y h;cases h;rfl
 |cons a l ih=>
  intro y h;unfold DR at h;split at h
  case h_2=>cases h
  rename_i t d x;obtain⟨ho,h⟩:=A1 h
  have e1: [frz (cV t d x)]=tyV t 0 x:=by
   have:=Bd t d x;rw [Bv ho]at this;simpa using this
  split at h
  ·cases h
   exact e1.symm
  ·rename_i b l'
   split at h
   case h_2=>cases h
   rename_i t' x' hf;cases h;show tyV t 0 x++tyV t' 0 x'=frz (cV t d x)::_;rw [ih _ hf,<-e1];rfl
def Vf(s:St):Option TI->Nat->Option Sl->Option TR
 |some i,k,some (.one (.c (.ptr t) 0 x))=>
  match i.flds[k]? with
  |some (off,fs)=>match DR (((Am t 0 x).drop off).take fs)with
   |some ⟨t',x'⟩=>bif Nat.ble (off+fs) t.w then some (.ok (.one (.c (.ptr t') 0 x')))else none
   |none=>none
  |none=>none
 |some i,k,some (.one (.rp id p j k0))=>
  match i.flds[k]? with
  |some (off,_)=>bif(Ab s.r id p).live&&Nat.blt (k0+off) (Ab s.r id p).w then some (.ok (.one (.rp id p j (k0+off))))else none
  |none=>none
 |some i,k,some (.pk .bx l)=>
  match i.flds[k]? with
  |some (off,fs)=>bif Nat.ble (off+fs) l.length&& !((l.drop off).take fs).any Cl.own then some (.ok (.pk .bx ((l.drop off).take fs)))else none
  |none=>none
 |_,_,_=>none
def HJ(s:St):Option TI->Option Sl->Option Sl->Option TR
 |some i,some (.one (.c (.sl t) 0 xs)),some (.one (.c (.int _) _ n))=>
  bif Nat.beq t.w i.ty.w&&Nat.blt 0 i.ty.w then some (.cnd (0<=n/\n<ofN (H5 xs)) inferInstance (.one (.c (.ptr t) 0 (Aaj xs (Jv n) t.dflt))))else none
 |some i,some (.one (.rf id p)),some (.one (.c (.int _) _ n))=>
  match Ab s.r id p with
  | .arr _ t _ xs=>bif Nat.beq t.w i.ty.w&&Nat.blt 0 i.ty.w then some (.cnd (0<=n/\n<ofN (H5 xs)) inferInstance (.one (.rp id p (Jv n) 0)))else none
  |_=>none
 |some i,some (.one (.rs id p off len)),some (.one (.c (.int _) _ n))=>
  match Ab s.r id p with
  | .arr _ t _ _=>bif Nat.beq t.w i.ty.w&&Nat.blt 0 i.ty.w then some (.cnd (0<=n/\n<ofN len) inferInstance (.one (.rp id p (off+Jv n) 0)))else none
  |_=>none
 |_,_,_=>none
def N1:List Cl->Option (List Bool)
 | []=>some []
 | .c .bool _ b::l=>match N1 l with
  |some bs=>some (b::bs)
  |none=>none
 |_=>none
def Vd:Option TI->Option Sl->Option Sl->Option TR
 |some i,some (.one (.c .str _ s)),some (.one (.c (.int _) _ n))=>bif i.str then some (.cnd (0<=n/\n<ofN (Lx s)) inferInstance (.one (.c (.int .u8) 0 (Xb s (Jv n)))))else none
 |some i,some (.agg l),some (.one (.c (.int _) _ n))=>bif Nat.blt 0 i.arr then(match N1 l with
  |some bs=>bif Nat.beq bs.length i.arr then some (.cnd (0<=n/\n<ofN i.arr) inferInstance (.one (.c .bool 0 (Aaj bs (Jv n) false))))else none
  |none=>none)else none
 |_,_,_=>none
def tNil:Option Sl->Option TR
 |some (.one (.c (.ptr t) 0 x))=>some (.ok (.one (.c (.ptr t) 0 x)))
 |some (.one (.rp id p i k))=>some (.ok (.one (.rp id p i k)))
 |some (.pk .bx l)=>bif l.any Cl.own then none else some (.ok (.pk .bx l))
 |_=>none
def Y2:List Cl->List Cl->Option Bool
 | [],[]=>some true
 | .c (.int k) _ a::l,.c (.int k') _ b::m=>if k'=k then(match Y2 l m with
  |some r=>some (AaQ (eqI a b) r)
  |none=>none)else none
 | .c .bool _ a::l,.c .bool _ b::m=>match Y2 l m with
  |some r=>some (AaQ (eqB a b) r)
  |none=>none
 | .c .str _ a::l,.c .str _ b::m=>match Y2 l m with
  |some r=>some (AaQ (eqS a b) r)
  |none=>none
 |_,_=>none
def kCs:List Nat->List Cl->Bool
 | [],[]=>true
 |k::ks,.c (.int _) _ _::l=>Nat.beq k 0&&kCs ks l
 |k::ks,.c .bool _ _::l=>Nat.beq k 1&&kCs ks l
 |k::ks,.c .str _ _::l=>Nat.beq k 2&&kCs ks l
 |_,_=>false
def tEq(op:BinOp)(r:Bool):Option TR:=match op with
 | .eql=>some (.ok (.one (.c .bool 0 r)))
 | .neq=>some (.ok (.one (.c .bool 0 (notB r))))
 |_=>none
def tsh(op:BinOp)(k:IntKind)(a b:Int):Option TR:=match op with
 | .shl=>some (.cnd (0<=b) inferInstance (.one (.c (.int k) 0 (shlI k a b))))
 | .shr=>some (.cnd (0<=b) inferInstance (.one (.c (.int k) 0 (shrI k a b))))
 |_=>none
def tBin(i:Option TI)(op:BinOp):Option Sl->Option Sl->Option TR
 |some (.one (.c .bool _ a)),some (.one (.c .bool _ b))=>match i with
  |some i=>(match i.eq with
   |some ks=>bif(match ks with
     | [k]=>Nat.beq k 9
     |_=>false)then tEq op (eqB a b)else none
   |none=>none)
  |none=>none
 |some (.agg l),some (.agg m)=>match i with
  |some i=>(match i.eq with
   |some ks=>bif kCs ks l&&kCs ks m then(match Y2 l m with
    |some r=>tEq op r
    |none=>none)else none
   |none=>none)
  |none=>none
 |some (.one (.c (.int k) _ a)),some (.one (.c (.int k') _ b))=>match tsh op k a b with
  |some r=>some r
  |none=>if k'=k then match op with
   | .and=>some (.ok (.one (.c (.int k) 0 (andI k a b))))
   | .add=>some (.ok (.one (.c (.int k) 0 (k.wrap (a+b)))))
   | .sub=>some (.ok (.one (.c (.int k) 0 (k.wrap (a-b)))))
   | .mul=>some (.ok (.one (.c (.int k) 0 (k.wrap (a*b)))))
   | .quo=>some (.cnd (b≠0) inferInstance (.one (.c (.int k) 0 (k.wrap (a.tdiv b)))))
   | .rem=>some (.cnd (b≠0) inferInstance (.one (.c (.int k) 0 (a.tmod b))))
   | .eql=>some (.ok (.one (.c .bool 0 (eqI a b))))
   | .neq=>some (.ok (.one (.c .bool 0 (neI a b))))
   | .lss=>some (.ok (.one (.c .bool 0 (ltI a b))))
   | .leq=>some (.ok (.one (.c .bool 0 (leI a b))))
   | .gtr=>some (.ok (.one (.c .bool 0 (ltI b a))))
   | .geq=>some (.ok (.one (.c .bool 0 (leI b a))))
   |_=>none
  else none
 |some (.one (.c .str _ a)),some (.one (.c .str _ b))=>match op with
   | .add=>some (.cnd ((Lx a+Lx b:Nat)<=9223372036854775807) inferInstance (.one (.c .str 0 (catS a b))))
   | .eql=>some (.ok (.one (.c .bool 0 (eqS a b))))
   | .neq=>some (.ok (.one (.c .bool 0 (neS a b))))
   | .lss=>some (.ok (.one (.c .bool 0 (ltS a b))))
   |_=>none
 |some (.one (.c (.sl _) 0 xs)),some (.one .nil)=>match i with
  |some i=>bif !i.str&&i.elem.isSome then(match op with
   | .eql=>some (.cnd (0<H5 xs) inferInstance (.one (.c .bool 0 false)))
   | .neq=>some (.cnd (0<H5 xs) inferInstance (.one (.c .bool 0 true)))
   |_=>none)else none
  |none=>none
 |_,_=>none
def tUn(op:UnOp):Option Sl->Option TR
 |some (.one (.c .bool _ b))=>match op with
  | .not=>some (.ok (.one (.c .bool 0 (notB b))))
  |_=>none
 |some (.one (.c (.int k) _ n))=>match op with
  | .neg=>some (.ok (.one (.c (.int k) 0 (k.wrap (0-n)))))
  |_=>none
 |_=>none
def u8r(r:List Aa):Sl->Option (List Int)
 | .one (.c (.sl (.int .u8)) _ xs)=>some xs
 | .one (.rf id p)=>match Ab r id p with
  | .arr _ (.int .u8) _ xs=>some xs
  |_=>none
 |_=>none
def Zz(r:List Aa):Option TI->Option TI->Option TI->Option TI->Option Sl->Option TR
 |some _,some j,_,_,some (.one (.c (.int _) _ n))=>match j.ik with
  |some k=>some (.ok (.one (.c (.int k) 0 (k.wrap n))))
  |none=>none
 |some i,some j,_,f,some (.one (.c .str _ b))=>match i.str,j.str with
  |true,true=>some (.ok (.one (.c .str 0 b)))
  |true,false=>match f.bind (·.ik)with
   |some .u8=>some (.cnd (Lx b<=9223372036854775807) inferInstance (.one (.c (.sl (.int .u8)) 1 (DM b))))
   |_=>none
  |_,_=>none
 |some i,some j,some e,_,some y=>match u8r r y,e.ik with
  |some xs,some .u8=>bif !i.str&&j.str then some (.ok (.one (.c .str 0 (strOfNums xs))))else none
  |_,_=>none
 |_,_,_,_,_=>none
def Lt(k:Nat):Option Sl->Option TR
 |some (.tup l)=>match l[k]? with
  |some (true,cs)=>bif cs.any Cl.own then none else some (.ok (.agg cs))
  |some (false,[c])=>bif c.own then none else some (.ok (.one c))
  |_=>none
 |_=>none
def slLen(s:St):Sl->Option Nat
 | .one (.c (.sl _) _ xs)=>some (H5 xs)
 | .one .nil=>some 0
 | .one (.rf id p)=>some (Ab s.r id p).len
 | .one (.rs _ _ _ len)=>some len
 |_=>none
def tLen(s:St):Option TI->Option Sl->Option TR
 |some i,some y=>bif i.str then(match y with
   | .one (.c .str _ b)=>some (.ok (.one (.c (.int .i64) 0 (ofN (Lx b)))))
   |_=>none)
  else bif i.elem.isSome then(match slLen s y with
   |some n=>some (.ok (.one (.c (.int .i64) 0 (ofN n))))
   |none=>none)
  else none
 |_,_=>none
def tMin:Option Sl->Option Sl->Option TR
 |some (.one (.c (.int k) _ x)),some (.one (.c (.int _) _ y))=>some (.ok (.one (.c (.int k) 0 (minI x y))))
 |_,_=>none
def tMax:Option Sl->Option Sl->Option TR
 |some (.one (.c (.int k) _ x)),some (.one (.c (.int _) _ y))=>some (.ok (.one (.c (.int k) 0 (maxI x y))))
 |_,_=>none
section sound
variable {P:Program} {Θ:Tab} {s:St}
theorem MK(hΘ:Θ.OK P)(h:Vf s (Θ.look t) k (s.ev x)=some a):QS P s (.fieldAddr t x k) a.y:=by
 unfold Vf at h;split at h
 case h_4=>cases h
 ·rename_i i t' x' hi hx
  split at h
  case h_2=>cases h
  rename_i off fs hf;split at h
  case h_2=>cases h
  rename_i t2 x2 hd;obtain⟨hb,h⟩:=A1 h;have hb:=blE hb;cases h;show Jp (Uq P t _) (s.r.map Aa.v) (s.den.ev x) (SK s _);rw [hΘ.fld hi hf,AZ hx];refine⟨by rw [Aq];exact hb,?_⟩
  have e:=Du _ _ hd;rw [List.map_take,List.map_drop,Bu,List.map_take,List.map_drop,Bd]at e;show Sub _ (A7 false (tyV t2 0 x2));rw [e];show Sub (V.nd false false fs 1 λi k=>([tyV t' 0 x'].getD i []).getD (off+k) .dead) (A7 false (((tyV t' 0 x').drop off).take fs))
  unfold A7;have hl:(((tyV t' 0 x').drop off).take fs).length=fs:=by rw [List.length_take,List.length_drop,Aq];omega
  rw [hl];refine⟨_,rfl,λi' k' hi' hk'=>?_⟩
  obtain rfl:i'=0:=by omega
  refine Sub.of_eq ?_;simp [List.getElem?_take,hk']
 ·rename_i i id p j k0 hi hx
  split at h
  case h_2=>cases h
  rename_i off fs hf;obtain⟨hb,h⟩:=A1 h;simp only [bAE]at hb;cases h;show Jp (Uq P t _) (s.r.map Aa.v) (s.den.ev x) (SK s _);rw [hΘ.fld hi hf,AZ hx];refine⟨by rw [B0 hb.1];exact blE hb.2,Sub.refl _⟩
 ·rename_i i l hi hx
  split at h
  case h_2=>cases h
  rename_i off fs hf;obtain⟨hb,h⟩:=A1 h;cases h;simp only [bAE,Bool.not_eq_true']at hb;have hb1:=blE hb.1;show Jp (Uq P t _) (s.r.map Aa.v) (s.den.ev x) (SK s _);rw [hΘ.fld hi hf,AZ hx];have hl:((l.drop off).take fs).length=fs:=by simp;omega
  have hget: ∀k,k<fs->((l.drop off).take fs).getD k .dead=l.getD (off+k) .dead:=λk hk=>by simp [List.getElem?_take,hk]
  have hv: ∀k,(l.map (Cl.v s.r)).getD (off+k) .dead=(l.getD (off+k) .dead).v s.r:=λk=>Ay (f:=Cl.v s.r) (a:=.dead) rfl _ _
  show(off+fs<=(l.map (Cl.v s.r)).length/\((List.range fs).all λk=>!AE ((l.map (Cl.v s.r)).getD (off+k) .dead))=true)/\Sub (V.many .bx fs λk=>(l.map (Cl.v s.r)).getD (off+k) .dead) (boxL (((l.drop off).take fs).map (Cl.v s.r)))
  refine⟨⟨by simpa using hb1,?_⟩,?_⟩
  ·rw [aET]
   intro k hk;have hk:=List.mem_range.1 hk;show(!AE ((l.map (Cl.v s.r)).getD (off+k) .dead))=true;rw [hv,Cl.own_v,<-hget k hk]
   have h2:=List.any_eq_false.1 hb.2 (((l.drop off).take fs).getD k .dead) (by
    rw [gDE,gEE (by omega)]
    exact List.getElem_mem _)
   simpa using h2
  ·show Sub _ (V.many .bx _ _)
   rw [List.length_map,hl];refine⟨_,rfl,λk hk=>Sub.of_eq ?_⟩
   show(l.map (Cl.v s.r)).getD (off+k) .dead=_;rw [hv,Ay (f:=Cl.v s.r) (a:=.dead) rfl,hget k hk]
theorem Id{a b:Nat}{c:Bool}(h:(Nat.beq a b&&c)=true):a=b/\c=true:=by simp_all
theorem Kf(h:Nat.blt 0 n=true):0<n:=by simp_all
theorem CV(hΘ:Θ.OK P){j:TI}(h:((Θ.look t).bind (·.elem)).bind Θ.look=some j): ∃e,slI P t=some ⟨e,j.ty.w,j.bytes,BN j.ty⟩/\∃i,Θ.look t=some i/\i.elem=some e/\Θ.look e=some j:=by
 cases hi:Θ.look t with
 |none=>grind
 |some i=>
  rw [hi]at h;cases he:i.elem with
  |none=>grind
  |some e=>
   simp [he]at h;exact⟨e,hΘ.elem hi he h,i,rfl,he,h⟩
theorem Iz(hΘ:Θ.OK P)(h:HJ s (((Θ.look t).bind (·.elem)).bind Θ.look) (s.ev x) (s.ev i)=some a)(hp:a.p):QS P s (.indexAddr t x i) a.y:=by
 unfold HJ at h;split at h
 case h_4=>cases h
 ·rename_i j t' xs _ _ n hj hx hi
  obtain⟨e,hsl,_⟩:=CV hΘ hj;obtain⟨hb,h⟩:=A1 h;cases h;obtain⟨h1,h2⟩:=Id hb;have h2:=Kf h2;obtain⟨p1,p2⟩:0<=n/\n<xs.length:=hp;show BS (slI P t) (s.r.map Aa.v) (s.den.ev x) (s.den.ev i) (SK s _);rw [hsl,AZ hx,AZ hi];refine⟨h1,by rw [h1];exact h2,⟨p1,p2⟩,?_⟩
  show Sub (V.nd false false t'.w 1 λ_ k=>(tyV t' 0 (xs.getD n.toNat t'.dflt)).getD k .dead) (A7 false (tyV t' 0 (xs.getD n.toNat t'.dflt)))
  unfold A7;rw [Aq];refine⟨_,rfl,λi k hi _=>?_⟩
  obtain rfl:i=0:=by omega
  exact Sub.refl _
 ·rename_i j id p _ _ n hj hx hi
  obtain⟨e,hsl,_⟩:=CV hΘ hj;split at h
  case h_2=>cases h
  rename_i ro t' d xs hn;have hne:Ab s.r id p≠.dead:=by rw [hn];simp
  obtain⟨hb,h⟩:=A1 h;cases h;obtain⟨h1,h2⟩:=Id hb;have h2:=Kf h2;obtain⟨p1,p2⟩:0<=n/\n<xs.length:=hp;show BS (slI P t) (s.r.map Aa.v) (s.den.ev x) (s.den.ev i) (SK s _);rw [hsl,AZ hx,AZ hi];have hl:(Ab s.r id p).len=xs.length:=by rw [hn];rfl
  refine⟨by rw [B0 (by rw [hn];rfl),hn];exact h1,h2,⟨p1,by rw [hl];exact p2⟩,?_⟩
  show Sub (V.rp id p (0+n.toNat) 0) (V.rp id p n.toNat 0);rw [Nat.zero_add];exact Sub.refl _
 ·rename_i j id p off len _ _ n hj hx hi
  obtain⟨e,hsl,_⟩:=CV hΘ hj;split at h
  case h_2=>cases h
  rename_i ro t' d xs hn;have hne:Ab s.r id p≠.dead:=by rw [hn];simp
  obtain⟨hb,h⟩:=A1 h;cases h;obtain⟨h1,h2⟩:=Id hb;have h2:=Kf h2;show BS (slI P t) (s.r.map Aa.v) (s.den.ev x) (s.den.ev i) (SK s _);rw [hsl,AZ hx,AZ hi];exact⟨by rw [B0 (by rw [hn];rfl),hn];exact h1,h2,hp,Sub.refl _⟩
theorem Qi: ∀ {l:List Cl} {bs:List Bool},N1 l=some bs->l.length=bs.length/\∀k r,k<bs.length->(l.getD k .dead).v r= .c (.bool (bs.getD k false))
 | [],bs,h=>by cases h;exact⟨rfl,λk r hk=>absurd hk (Nat.not_lt_zero _)⟩
 | .c .bool d b::l,bs,h=>by
  unfold N1 at h;split at h
  ·rename_i bs' hb
   cases h;obtain⟨h1,h2⟩:=Qi hb;refine⟨by simp [h1],λk r hk=>?_⟩
   cases k with
   |zero=>rfl
   |succ k=>exact h2 k r (by simpa using hk)
  ·cases h
theorem idxA{bs:List Bool}{r:List Aa}{m:Nat}{k:IntKind}{n:Int}(h:N1 l=some bs)(hl:bs.length=m)(hp:0<=n/\n<(m:Int)):HR m (Ac (l.map (Cl.v r))) (.c (.int k n)) λr0=>Sub r0 (.c (.bool (bs.getD n.toNat false))):=by
 obtain⟨h1,h2⟩:=Qi h;have hn:n.toNat<bs.length:=by omega
 have hg:(l.map (Cl.v r)).getD n.toNat .dead= .c (.bool (bs.getD n.toNat false)):=by
  rw [<-h2 n.toNat r hn,gDE,List.getElem?_map,gEE (by omega),gDE,gEE (by omega)];rfl
 refine⟨by rw [List.length_map,h1,hl],hp,?_,?_⟩
 ·show AE ((l.map (Cl.v r)).getD n.toNat .dead)=false
  rw [hg];rfl
 ·show Sub ((l.map (Cl.v r)).getD n.toNat .dead) _
  rw [hg];exact Sub.refl _
theorem MI(hΘ:Θ.OK P)(h:Vd (Θ.look t) (s.ev x) (s.ev i)=some a)(hp:a.p):QS P s (.index t x i) a.y:=by
 unfold Vd at h;split at h
 case h_3=>grind
 ·rename_i j _ b _ _ n hj hx hi
  cases hb:j.str with
  |false=>grind
  |true=>
   rw [hb]at h;cases h;show(slK P t= .string/\M6 (s.den.ev x) (s.den.ev i) (SK s _))\/_;rw [AZ hx,AZ hi,hΘ.sk hj,hb];exact .inl ⟨rfl,hp,Sub.refl _⟩
 ·rename_i j l _ _ n hj hx hi
  obtain⟨hb,h⟩:=A1 h;split at h
  case h_2=>cases h
  rename_i bs hbs;obtain⟨hl,h⟩:=A1 h;cases h;show _\/(0<arI P t/\HR (arI P t) (s.den.ev x) (s.den.ev i) (SK s _));rw [AZ hx,AZ hi,hΘ.ar hj];exact .inr ⟨Kf hb,idxA hbs (bqE hl) hp⟩
theorem QB(h:tNil (s.ev x)=some a):QS P s (.nilCheck x) a.y:=by
 unfold tNil at h;split at h<;>try grind
 ·rename_i hx
  cases h;show ZN (s.den.ev x) (SK s _);rw [AZ hx];exact Sub.refl _
 ·rename_i hx
  cases h;show ZN (s.den.ev x) (SK s _);rw [AZ hx];rfl
 ·rename_i l hx
  cases ho:l.any Cl.own with
  |true=>grind
  |false=>
   rw [ho]at h;cases h;show ZN (s.den.ev x) (SK s _);rw [AZ hx];refine⟨?_,Sub.refl _⟩;show AE (Sl.v s.r (.pk .bx l))=false;rw [Sl.own_v]
   trivial
theorem Wl: ∀ {ks:List Nat},kCs ks l=true->ks≠[9]:=by
 rintro ks h rfl
 cases l with
 |nil=>cases h
 |cons y l=>
  cases y<;>try trivial
  rename_i t d x;cases t<;>cases h
theorem P8(r:List Aa): ∀ (ks:List Nat) (l m:List Cl) (z:Bool),kCs ks l=true->kCs ks m=true->Y2 l m=some z->
  ∃va vb:List Value,l.map (Cl.v r)=va.map V.c/\m.map (Cl.v r)=vb.map V.c/\okL ks va vb=true/\Pf va vb=z
 | [],[],[],z,_,_,h=>by cases h;exact⟨[],[],rfl,rfl,rfl,rfl⟩
 | [],[],_::_,_,_,h,_=>by cases h
 | [],_::_,_,_,h,_,_=>by cases h
 |_::_,[],_,_,h,_,_=>by cases h
 |_::_,_::_,[],_,_,h,_=>by cases h
 |k::ks,a::l,b::m,z,hl,hm,h=>by
  cases a<;>try (cases hl;done)
  cases b<;>try (cases hm;done)
  rename_i t d x t' d' x';cases t<;>try (cases hl;done)
  ·rename_i q
   cases t'<;>try (cases h;done)
   rename_i q'
   have h:(if q'=q then(match Y2 l m with
    |some r=>some (AaQ (eqI x x') r)
    |none=>none)else none)=some z:=h
   split at h
   case isFalse=>cases h
   rename_i hq;subst hq;split at h
   case h_2=>cases h
   rename_i z1 h1;cases h;have hl:(Nat.beq k 0&&kCs ks l)=true:=hl;have hm:(Nat.beq k 0&&kCs ks m)=true:=hm;rw [bAE]at hl hm;obtain⟨va,vb,e1,e2,e3,e4⟩:=P8 r ks l m z1 hl.2 hm.2 h1;have hk:=bqE hl.1;subst hk;refine⟨.int q' x::va,.int q' x'::vb,?_,?_,?_,?_⟩
   ·rw [List.map_cons,List.map_cons,e1];rfl
   ·rw [List.map_cons,List.map_cons,e2];rfl
   ·show((kOf (.int q' x)==some 0)&&(kOf (.int q' x')==some 0)&&Je (.int q' x) (.int q' x')&&okL ks va vb)=true
    rw [e3];simp [kOf,Je]
   ·show(vEq (.int q' x) (.int q' x')&&Pf va vb)=_
    rw [e4];rfl
  ·cases t'<;>try (cases h;done)
   have h:(match Y2 l m with
    |some r=>some (AaQ (eqB x x') r)
    |none=>none)=some z:=h
   split at h
   case h_2=>cases h
   rename_i z1 h1;cases h;have hl:(Nat.beq k 1&&kCs ks l)=true:=hl;have hm:(Nat.beq k 1&&kCs ks m)=true:=hm;rw [bAE]at hl hm;obtain⟨va,vb,e1,e2,e3,e4⟩:=P8 r ks l m z1 hl.2 hm.2 h1;have hk:=bqE hl.1;subst hk;refine⟨.bool x::va,.bool x'::vb,?_,?_,?_,?_⟩
   ·rw [List.map_cons,List.map_cons,e1];rfl
   ·rw [List.map_cons,List.map_cons,e2];rfl
   ·show((kOf (.bool x)==some 1)&&(kOf (.bool x')==some 1)&&Je (.bool x) (.bool x')&&okL ks va vb)=true
    rw [e3];simp [kOf,Je]
   ·show(vEq (.bool x) (.bool x')&&Pf va vb)=_
    rw [e4];rfl
  ·cases t'<;>try (cases h;done)
   have h:(match Y2 l m with
    |some r=>some (AaQ (eqS x x') r)
    |none=>none)=some z:=h
   split at h
   case h_2=>cases h
   rename_i z1 h1;cases h;have hl:(Nat.beq k 2&&kCs ks l)=true:=hl;have hm:(Nat.beq k 2&&kCs ks m)=true:=hm;rw [bAE]at hl hm;obtain⟨va,vb,e1,e2,e3,e4⟩:=P8 r ks l m z1 hl.2 hm.2 h1;have hk:=bqE hl.1;subst hk;refine⟨.string x::va,.string x'::vb,?_,?_,?_,?_⟩
   ·rw [List.map_cons,List.map_cons,e1];rfl
   ·rw [List.map_cons,List.map_cons,e2];rfl
   ·show((kOf (.string x)==some 2)&&(kOf (.string x')==some 2)&&Je (.string x) (.string x')&&okL ks va vb)=true
    rw [e3];simp [kOf,Je]
   ·show(vEq (.string x) (.string x')&&Pf va vb)=_
    rw [e4];rfl
theorem YP{D:Nat->Prop}{w:World}{R:V->Value->Prop}{cx:Value}{fp:Nat->Prop}(h:Rel D w R (Ac (va.map V.c)) cx fp):cx= .agg va.toArray:=by
 obtain⟨cs,F,e,hs,hc⟩:=h;subst e
 congr 1
 apply Array.ext
 ·simp [hs]
 ·intro i h1 h2
  have hi:=by simpa using h2
  have:=hc.1 i (by omega)
  have e:(va.map V.c).getD i .dead= .c va[i]:=by simp [hi]
  have this:Rel D w R ((va.map V.c).getD i .dead) (cs.getD i undef) (F i):=this;rw [e]at this;have h3:=this.1
  simp_all
theorem JU{a b:Bool}{k:List Nat}(hk:Xc P t=some [9])(h:(op= .eql/\r=(a==b))\/(op= .neq/\r= !(a==b))):HD P op t x y (.c (.bool a)) (.c (.bool b)) (.c (.bool r)):=by
 intro w D R cx cy hx hy;obtain⟨rfl,_⟩:=hx;obtain⟨rfl,_⟩:=hy;refine⟨.bool r,?_,rfl,rfl,λ_ h=>h⟩
 have he:=Ux w (a:=a) (b:=b) hk;rcases h with⟨rfl,rfl⟩|⟨rfl,rfl⟩
 ·simp [eqGuard,binOp,he]
 ·simp [eqGuard,binOp,he]
theorem Lb{vb:List Value}{ks:List Nat}(hk:Xc P t=some ks)(hn:ks≠[9])(ho:okL ks va vb=true)(h:(op= .eql/\r=Pf va vb)\/(op= .neq/\r= !Pf va vb)):HD P op t x y (Ac (va.map V.c)) (Ac (vb.map V.c)) (.c (.bool r)):=by
 intro w D R cx cy hx hy;have hx:=YP hx;have hy:=YP hy;subst hx;subst hy;refine⟨.bool r,?_,rfl,rfl,λ_ h=>h⟩
 obtain⟨he,hg⟩:=WA w hk hn ho;rcases h with⟨rfl,rfl⟩|⟨rfl,rfl⟩
 ·simp [eqGuard,binOp,he,hg]
 ·simp [eqGuard,binOp,he,hg]
theorem Lq(va:List Value):AE (Ac (va.map V.c))=false:=by
 rw [Vb,List.any_map,List.any_eq_false];simp [AE]
theorem La{sz:Nat}{f:Nat->Nat->V}(hl:Mt P t= .slice)(hn:0<n)(ho:(op= .eql/\r=false)\/(op= .neq/\r=true)):HD P op t x y (.nd true false sz n f) (.c (.slice none 0 0)) (.c (.bool r)):=by
 intro w D R cx cy hx hy;have hu: ∃e,P.underlying t=some (.slice e):=by
  unfold Mt at hl;split at hl
  ·cases hl
  ·exact⟨_,by assumption⟩
  ·cases hl
 obtain⟨e,hu⟩:=hu;rcases hx with⟨h0,_⟩|⟨b,o,cap,F,rfl,_⟩
 ·omega
 have hy:cy= .slice none 0 0:=hy.1;subst hy;refine⟨.bool r,?_,rfl,rfl,λ_ h=>h⟩
 have he:(Op.equal t (.slice (some ⟨b,o,none⟩) n cap) (.slice none 0 0)).run P w= .ok false w:=by
  unfold Op.equal;rw [show Op.maxDepth=9999+1 from rfl]
  unfold Op.equalIn;simp [run_underlying hu]
 rcases ho with⟨rfl,rfl⟩|⟨rfl,rfl⟩
 ·simp [As,eqGuard,binOp,he]
 ·simp [As,eqGuard,binOp,he]
theorem QJ{Θ:Tab}{s:St}(hΘ:Θ.OK P){yt:TypeId}(h:tBin (Θ.look t) op (s.ev x) (s.ev y)=some a)(hp:a.p):QS P s (.binOp op t x y yt) a.y:=by
 unfold tBin at h;split at h
 case h_6=>cases h
 rotate_left 4
 ·rename_i t1 xs hx hy
  split at h
  case h_2=>cases h
  rename_i i hi;cases hb:(!i.str&&i.elem.isSome)with
  |false=>rw [hb]at h;cases h
  |true=>
   rw [hb]at h;simp only [bAE,Bool.not_eq_true']at hb;have hln:Mt P t= .slice:=by
    rw [hΘ.ln hi,hb.1];obtain⟨e,he⟩:=Option.isSome_iff_exists.1 hb.2;rw [he];rfl
   simp only [cond_true]at h;show Q6 P op t x y (s.den.ev x) (s.den.ev y) (SK s _);rw [AZ hx,AZ hy];show ∃z,HD P op t x y (.nd true false t1.w xs.length λi k=>(tyV t1 0 (xs.getD i t1.dflt)).getD k .dead) (.c (.slice none 0 0)) z/\_/\_/\SK s _ z
   split at h
   ·cases h
    exact⟨.c (.bool false),La hln hp (.inl ⟨rfl,rfl⟩),rfl,rfl,Sub.refl _⟩
   ·cases h
    exact⟨.c (.bool true),La hln hp (.inr ⟨rfl,rfl⟩),rfl,rfl,Sub.refl _⟩
   ·cases h
 ·rename_i _ a' _ b' hx hy
  split at h
  case h_2=>cases h
  rename_i i hi;split at h
  case h_2=>cases h
  rename_i ks hks;have hk:Xc P t=some ks:=by rw [hΘ.eq hi,hks]
  obtain⟨hb,h⟩:=A1 h;have e9:ks= [9]:=by
   split at hb
   ·rw [bqE hb]
   ·cases hb
  subst e9;show Q6 P op t x y (s.den.ev x) (s.den.ev y) (SK s _);rw [AZ hx,AZ hy];show ∃z,HD P op t x y (.c (.bool a')) (.c (.bool b')) z/\_/\_/\SK s _ z;unfold tEq at h;simp only [cond_true]at h;split at h
  ·cases h
   exact⟨.c (.bool (a'==b')),JU (k:=[]) hk (.inl ⟨rfl,rfl⟩),rfl,rfl,Sub.refl _⟩
  ·cases h
   exact⟨.c (.bool (!(a'==b'))),JU (k:=[]) hk (.inr ⟨rfl,rfl⟩),rfl,rfl,Sub.refl _⟩
  ·cases h
 ·rename_i l m hx hy
  split at h
  case h_2=>cases h
  rename_i i hi;split at h
  case h_2=>cases h
  rename_i ks hks;have hk:Xc P t=some ks:=by rw [hΘ.eq hi,hks]
  cases hb:(kCs ks l&&kCs ks m)with
  |false=>rw [hb]at h;cases h
  |true=>
   rw [hb]at h;rw [bAE]at hb;simp only [cond_true]at h;split at h
   case h_2=>cases h
   rename_i r hr;obtain⟨va,vb,e1,e2,e3,e4⟩:=P8 s.r ks l m r hb.1 hb.2 hr;show Q6 P op t x y (s.den.ev x) (s.den.ev y) (SK s _);rw [AZ hx,AZ hy];show ∃z,HD P op t x y (Ac (l.map (Cl.v s.r))) (Ac (m.map (Cl.v s.r))) z/\AE (Ac (l.map (Cl.v s.r)))=false/\AE (Ac (m.map (Cl.v s.r)))=false/\SK s _ z;rw [e1,e2];unfold tEq at h;split at h
   ·cases h
    exact⟨.c (.bool r),Lb hk (Wl hb.1) e3 (.inl ⟨rfl,e4.symm⟩),Lq _,Lq _,Sub.refl _⟩
   ·cases h
    exact⟨.c (.bool (!r)),Lb hk (Wl hb.1) e3 (.inr ⟨rfl,by rw [e4]⟩),Lq _,Lq _,Sub.refl _⟩
   ·cases h
 ·rename_i k _ a' k' _ b hx hy
  show Q6 P op t x y (s.den.ev x) (s.den.ev y) (SK s _);rw [AZ hx,AZ hy];show Q6 P op t x y (.c (.int k a')) (.c (.int k' b)) (SK s _);unfold Q6 Zi;split at h
  ·rename_i r hr
   cases h;unfold tsh at hr;split at hr<;>cases hr
   ·exact⟨hp,Sub.refl _⟩
   ·exact⟨hp,Sub.refl _⟩
  rename_i hr;have hv:vsh op k a' b=none:=by
   unfold tsh at hr;unfold vsh;split at hr<;>first|(cases hr;done)|skip
   split<;>first|rfl|(exfalso;simp_all)
  split at h
  case isFalse=>cases h
  rename_i hk;subst hk;simp only [hv,if_true];split at h<;>first|(cases h;done)|(cases h;exact⟨trivial,Sub.refl _⟩)|(cases h;exact⟨hp,Sub.refl _⟩)
 ·rename_i _ a' _ b hx hy
  show Q6 P op t x y (s.den.ev x) (s.den.ev y) (SK s _);rw [AZ hx,AZ hy];show Q6 P op t x y (.c (.string a')) (.c (.string b)) (SK s _);unfold Q6 Zi;split at h<;>first|(cases h;done)|(cases h;exact⟨trivial,Sub.refl _⟩)|(cases h;exact⟨hp,Sub.refl _⟩)
theorem U2{op:UnOp}(h:tUn op (s.ev x)=some a):QS P s (.unOp op t x) a.y:=by
 unfold tUn at h;split at h
 case h_3=>grind
 all_goals
  rename_i hx;split at h<;>try grind
  cases h;show qUn _ (s.den.ev x) (SK s _);rw [AZ hx];exact Sub.refl _
theorem Lh{f:Nat->V}{l:List Int}: ∀ (n:Nat),n<=l.length->(∀i,i<n->f i= .c (.int .u8 (l.getD i 0)))->W8 f n=some (l.take n)
 |0,_,_=>rfl
 |n+1,hn,h=>by
  unfold W8;rw [Lh n (by omega) (λi hi=>h i (by omega)),h n (by simp)]
  simp [show n<l.length by omega]
theorem u8r_v{r:List Aa}{y:Sl}{xs:List Int}(h:u8r r y=some xs):bytV (r.map Aa.v) (y.v r)=some xs/\∀k n,y.v r≠.c (.int k n):=by
 unfold u8r at h;split at h
 ·cases h
  refine⟨?_,λk n e=>by cases e⟩
  exact(Lh (l:=xs) xs.length (Nat.le_refl _) λi hi=>rfl).trans (by simp)
 ·rename_i id p
  split at h
  case h_2=>cases h
  rename_i ro d xs' hn;cases h;refine⟨?_,λk n e=>by cases e⟩
  have hne:Ab r id p≠.dead:=by rw [hn];simp
  show(match sub p ((r.map Aa.v).getD id .dead)with
   | .nd true true 1 n f=>if 0+(Ab r id p).len<=n then W8 (λi=>f (0+i) 0) (Ab r id p).len else none
   |_=>none)=_
  rw [AP hne,hn];show(if 0+xs.length<=xs.length then W8 _ xs.length else none)=_
  rw [if_pos (by omega)]
  exact(Lh (l:=xs) xs.length (Nat.le_refl _) λi hi=>by rw [Nat.zero_add];rfl).trans (by simp)
 ·cases h
theorem Oo(hΘ:Θ.OK P){u v:TypeId}(h:Zz s.r (Θ.look u) (Θ.look v) (((Θ.look u).bind (·.elem)).bind Θ.look) (((Θ.look v).bind (·.elem)).bind Θ.look) (s.ev x)=some a)(hp:a.p):QS P s (.convert u v x) a.y:=by
 unfold Zz at h
 have und: ∀ (t:TypeId) (i:TI),Θ.look t=some i->∃d,P.underlying t=some d:=by
  intro t i hi;have:=hΘ.ty hi;unfold tyI at this;split at this
  ·exact⟨_,by assumption⟩
  ·cases this
 split at h
 case h_4=>cases h
 ·rename_i i j _ _ _ _ n hi hj hx
  split at h
  case h_2=>cases h
  rename_i k hk;cases h;show C9 P (s.r.map Aa.v) u v (s.den.ev x) (SK s _);have hcv:cvI P u v= .int k:=by
   obtain⟨d,hd⟩:=und _ _ hi;have h1:=hΘ.ik hj;rw [hk]at h1;unfold ukI at h1;split at h1
   ·rename_i k' hv;cases h1;unfold cvI;simp [hd,hv]
   ·cases h1
  rw [Jq (by rw [hcv];intro h;cases h)]
  unfold Nb;rw [hcv,AZ hx];exact Sub.refl _
 ·rename_i i j _ f _ b hi hj hx
  split at h
  ·rename_i hb1 hb2
   cases h;show C9 P (s.r.map Aa.v) u v (s.den.ev x) (SK s _);have hcv:cvI P u v= .string:=by
    have h1:=I8 (by have:=hΘ.sk hi;rw [hb1]at this;exact this)
    have h2:=I8 (by have:=hΘ.sk hj;rw [hb2]at this;exact this)
    unfold cvI;simp [h1,h2]
   rw [Jq (by rw [hcv];intro h;cases h)]
   unfold Nb;rw [hcv,AZ hx];exact Sub.refl _
  ·rename_i hb1 hb2
   split at h
   ·rename_i hik
    cases h;obtain⟨e,he,hik⟩:=Option.bind_eq_some_iff.1 hik;obtain⟨e',hsl,i2,_,_,hlk⟩:=CV hΘ he;obtain⟨g1,_⟩:=CB hsl;have h2:=hΘ.ik hlk;rw [hik]at h2;unfold ukI at h2;split at h2
    ·rename_i k' hv
     cases h2;have h3:=I8 (by have:=hΘ.sk hi;rw [hb1]at this;exact this)
     have hcv:cvB P u v=some e':=by unfold cvB;simp [h3,g1,hv]
     show C9 P (s.r.map Aa.v) u v (s.den.ev x) (SK s _);unfold C9;rw [hcv,AZ hx];exact⟨hp,Sub.refl _⟩
    ·cases h2
   ·cases h
  ·cases h
 ·rename_i i j e y _ _ hi hj he hx
  split at h
  case h_2=>cases h
  rename_i xs hu8 hik;obtain⟨hb,h⟩:=A1 h;simp only [bAE]at hb;cases h;obtain⟨e',hsl,i2,_,_,hlk⟩:=CV hΘ he;obtain⟨h1,_⟩:=CB hsl;have h2:=hΘ.ik hlk;rw [hik]at h2;unfold ukI at h2;split at h2
  ·rename_i k' hv
   cases h2;have h3:=I8 (by have:=hΘ.sk hj;rw [hb.2]at this;exact this)
   have hcv:cvI P u v= .bytes:=by unfold cvI;simp [h1,h3,hv]
   obtain⟨g1,g2⟩:=u8r_v hu8;show C9 P (s.r.map Aa.v) u v (s.den.ev x) (SK s _);rw [Jq (by rw [hcv];intro h;cases h)]
   unfold Nb;rw [hcv,AZ hx]
   show(match bytV (s.r.map Aa.v) (y.v s.r)with
    |some l=>SK s (.one (.c .str 0 (strOfNums xs))) (.c (.string (strOfNums l)))
    |none=>False)
   rw [g1];exact Sub.refl _
  ·cases h2
theorem J5(h:Lt k (s.ev x)=some a):QS P s (.extract x k) a.y:=by
 unfold Lt at h;split at h
 case h_2=>cases h
 rename_i l hx
 have key: ∀ (p:Bool×List Cl),l[k]? =some p->k<(l.map λp=>if p.1 then Ac (p.2.map (Cl.v s.r))else(p.2.map (Cl.v s.r)).getD 0 .dead).length/\
   (l.map λp=>if p.1 then Ac (p.2.map (Cl.v s.r))else(p.2.map (Cl.v s.r)).getD 0 .dead).getD k .dead=if p.1 then Ac (p.2.map (Cl.v s.r))else(p.2.map (Cl.v s.r)).getD 0 .dead:=by
  grind
 split at h
 case h_3=>cases h
 ·rename_i cs hk
  obtain⟨h1,h2⟩:=key _ hk;cases hb:cs.any Cl.own with
  |true=>rw [hb]at h;cases h
  |false=>
   rw [hb]at h;cases h;show Cd (s.den.ev x) k (SK s _);rw [AZ hx];refine⟨h1,?_,?_⟩
   ·show AE ((l.map _).getD k .dead)=false
    rw [h2];show AE (Ac _)=false;rw [Mm,hb]
   ·show SK s _ ((l.map _).getD k .dead)
    rw [h2];exact Sub.refl _
 ·rename_i c hk
  obtain⟨h1,h2⟩:=key _ hk;cases hb:c.own with
  |true=>rw [hb]at h;cases h
  |false=>
   rw [hb]at h;cases h;show Cd (s.den.ev x) k (SK s _);rw [AZ hx];refine⟨h1,?_,?_⟩
   ·show AE ((l.map _).getD k .dead)=false
    rw [h2];show AE (c.v s.r)=false;rw [Cl.own_v,hb]
   ·show SK s _ ((l.map _).getD k .dead)
    rw [h2];exact Sub.refl _
theorem QG(hΘ:Θ.OK P)(h:tLen s (Θ.look t) (s.ev x)=some a):QS P s (.call ⟨.builtin .len,#[x],#[t]⟩) a.y:=by
 have goal: ∀y,(Z7 (Mt P t) (s.den.ev x)=true/\qLen (s.den.ev x) (SK s y))->QS P s (.call ⟨.builtin .len,#[x],#[t]⟩) y:=λy h=>h
 unfold tLen at h;split at h
 case h_2=>cases h
 rename_i i y hi hx;cases hb:i.str with
 |true=>
  rw [hb]at h;split at h
  ·rename_i b
   cases h;refine goal _ ?_;rw [AZ hx,hΘ.ln hi,hb];exact⟨rfl,Sub.refl _⟩
  ·cases h
 |false=>
  rw [hb]at h;cases he:i.elem with
  |none=>rw [he]at h;cases h
  |some e=>
   rw [he]at h;simp only [cond_false,cond_true]at h;split at h
   ·rename_i n hn
    cases h;refine goal _ ?_;rw [AZ hx,hΘ.ln hi,hb,he];unfold slLen at hn;split at hn<;>first|(cases hn;done)|(cases hn;exact⟨rfl,Sub.refl _⟩)
   ·cases h
theorem QE(h:tMin (s.ev x) (s.ev y)=some a):QS P s (.call ⟨.builtin .min,#[x,y],ats⟩) a.y:=by
 unfold tMin at h;split at h<;>try grind
 rename_i hx hy;cases h;show Di .min (s.den.ev x) (s.den.ev y) (SK s _);rw [AZ hx,AZ hy];exact Sub.refl _
theorem QF(h:tMax (s.ev x) (s.ev y)=some a):QS P s (.call ⟨.builtin .max,#[x,y],ats⟩) a.y:=by
 unfold tMax at h;split at h<;>try grind
 rename_i hx hy;cases h;show Di .max (s.den.ev x) (s.den.ev y) (SK s _);rw [AZ hx,AZ hy];exact Sub.refl _
end sound
end Go.Ve

