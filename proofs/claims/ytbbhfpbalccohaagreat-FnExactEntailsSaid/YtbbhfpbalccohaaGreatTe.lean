/- The typed machine: contracts of functions, calls. -/
import Derived.Test.YtbbhfpbalccohaaGreatTd
import Derived.Test.YtbbhfpbalccohaaGreatVr
namespace Go.Ve
def PT:List (Bool×Ty)->Ty
 | []=>.unit
 | [p]=>p.2
 |p::q::l=>.pair p.2 (PT (q::l))
def vOf(b:Bool)(t:Ty)(d:Nat)(x:t.T):V:=if b then Ai (tyV t d x)else cV t d x
def DJ:(l:List (Bool×Ty))->(PT l).T->List V
 | [],_=>[]
 | [p],x=>[vOf p.1 p.2 0 x]
 |p::q::l,x=>vOf p.1 p.2 0 x.1::DJ (q::l) x.2
def RT:List (Bool×Nat×Ty)->Ty
 | []=>.unit
 | [p]=>p.2.2
 |p::q::l=>.pair p.2.2 (RT (q::l))
def ZO:(l:List (Bool×Nat×Ty))->(RT l).T->List V
 | [],_=>[]
 | [p],x=>[vOf p.1 p.2.2 p.2.1 x]
 |p::q::l,x=>vOf p.1 p.2.2 p.2.1 x.1::ZO (q::l) x.2
def resTV(l:List (Bool×Nat×Ty))(x:(RT l).T):V:=LA (ZO l x)
def isP(p:Bool×Nat×Ty):Bool:=!p.1&&match p.2.2 with
 | .ptr _=>true
 |_=>false
def WX(b:Bool)(p:Bool×Nat×Ty)(x:p.2.2.T):V:=bif b|| !isP p then vOf p.1 p.2.2 p.2.1 x else .c (.pointer none)
def Qz(b:Bool):(l:List (Bool×Nat×Ty))->(RT l).T->List V
 | [],_=>[]
 | [p],x=>[WX b p x]
 |p::q::l,x=>WX b p x.1::Qz b (q::l) x.2
theorem Vh: ∀ (l:List (Bool×Nat×Ty)) (x:(RT l).T),Qz true l x=ZO l x
 | [],_=>rfl
 | [_],_=>rfl
 |p::q::l,x=>congrArg (vOf p.1 p.2.2 p.2.1 x.1:: ·) (Vh (q::l) x.2)
def Io(b:Bool)(l:List (Bool×Nat×Ty))(x:(RT l).T):V:=LA (Qz b l x)
theorem Lt(l:List (Bool×Nat×Ty))(x:(RT l).T):Io true l x=resTV l x:=congrArg LA (Vh l x)
structure Sig where
 ps:List (Bool×Ty)
 rs:List (Bool×Nat×Ty)
abbrev SigN:=Sig
def FT(P:Program)(f:FuncId)(S:Sig)(g:(PT S.ps).T->Option (RT S.rs).T):Prop:=∀x y,g x=some y->FC P f (DJ S.ps x) (resTV S.rs y)
structure En where
 f:FuncId
 S:Sig
 g:(PT S.ps).T->Option (RT S.rs).T
def En.OK(P:Program)(e:En):Prop:=Bi P e.f=true/\FT P e.f e.S e.g
def It(P:Program)(Γ:List En):Prop:=∀e∈Γ,e.OK P
theorem FC.sub{P:Program}{f:FuncId}{args args':List V}{r:V}(h:FC P f args r)(hs:C5 args' args):FC P f args' r:=by
 intro w D cvs hk hD hsz hr;refine h w D cvs hk hD (by rw [hsz,hs.len]) fun i hi=>Rel.sub (hs.getD i) (hr i (by rw [hs.len];exact hi))
def FTN(P:Program)(f:FuncId)(S:Sig)(g:(PT S.ps).T->Option (Bool×(RT S.rs).T)):Prop:=∀x b y,g x=some (b,y)->FC P f (DJ S.ps x) (Io b S.rs y)
structure EnN where
 f:FuncId
 S:Sig
 g:(PT S.ps).T->Option (Bool×(RT S.rs).T)
def PJ:List EnN->FuncId->Option EnN
 | [],_=>none
 |e::l,f=>bif Nat.beq e.f f then some e else PJ l f
def EnN.OK(P:Program)(e:EnN):Prop:=Bi P e.f=true/\FTN P e.f e.S e.g
theorem PI{P:Program}{f:FuncId}{e:EnN}: ∀ {Γ:List EnN},(∀e∈Γ,e.OK P)->PJ Γ f=some e->e.OK P/\e.f=f
 | [],_,h=>by cases h
 |e'::l,hΓ,h=>by
  unfold PJ at h;cases hb:Nat.beq e'.f f with
  |true=>
   rw [hb]at h;cases h;exact⟨hΓ _ (List.mem_cons_self ..),bqE hb⟩
  |false=>
   rw [hb]at h;exact PI (fun e he=>hΓ e (mCM _ he)) h
def LZ(s:St)(w:Nat):Cl->Option Cl
 | .c t _ x=>bif t.one then some (.c t 0 x)else none
 | .nil=>some .nil
 | .rf id p=>match Af s.r id p with
  | .arr _ t _ xs=>some (.c (.sl t) 0 xs)
  |_=>none
 | .rs id p off len=>match Af s.r id p with
  | .arr _ t _ xs=>some (.c (.sl t) 0 (Zz off len xs t.dflt))
  |_=>none
 | .rp id p j k=>match Af s.r id p with
  | .obj _ l=>match j with
   |0=>bif Nat.ble (k+w) l.length then(match JT ((l.drop k).take w)with
    |some ⟨t,x⟩=>some (.c (.ptr t) 0 x)
    |none=>none)else none
   |_+1=>none
  | .arr _ t _ xs=>bif Nat.ble (k+w) t.w then(match JT (((Au t 0 (Aa1 xs j t.dflt)).drop k).take w)with
   |some ⟨t',x⟩=>some (.c (.ptr t') 0 x)
   |none=>none)else none
  |_=>none
 |_=>none
theorem Wi{t:Ty}(h:t.one=true)(d:Nat)(x:t.T):frz (cV t d x)=cV t 0 x:=by
 have:=By t d x;rw [BU h,BU h]at this;simpa using this
def Yr(v v':V):Prop:=Sub v v'\/∃sz sz' n f,v= .nd false false sz n f/\sz'<=sz/\Sub (.nd false false sz' n f) v'
theorem Rel.trunc{D:Nat->Prop}{w:World}{R:V->Value->Prop}{sz sz' n:Nat}{f:Nat->Nat->V}{cv:Value}{fp:Nat->Prop}(h:Rel D w R (.nd false false sz n f) cv fp)(hs:sz'<=sz):Rel D w R (.nd false false sz' n f) cv fp:=by
 rcases h with h|⟨b,o,cap,F,hcv,hcap,hmax,hs1,hr,hi,ho⟩
 ·cases h.2.1
 have hn:=hs1 rfl;subst hn;refine .inr ⟨b,o,cap,F,hcv,hcap,hmax,hs1,fun i k hi hk=>?_,fun hh=>?_,fun h=>by cases h⟩
 ·obtain rfl:i=0:=by omega
  obtain⟨x,hx,hrx⟩:=hr 0 k (by omega) (by omega)
  exact⟨x,by simpa using hx,hrx⟩
 ·obtain⟨h1,h2,h3⟩:=hi hh
  exact⟨fun h0=>h1 (by omega),fun i k x hi hk=>h2 i k x hi (by omega),h3⟩
theorem Rel.sub1{D:Nat->Prop}{w:World}{R:V->Value->Prop}{v v':V}{cv:Value}{fp:Nat->Prop}(he:Yr v v')(h:Rel D w R v cv fp):Rel D w R v' cv fp:=by
 rcases he with he|⟨sz,sz',n,f,rfl,hs,he⟩
 ·exact Rel.sub he h
 ·exact Rel.sub he (h.trunc hs)
def JZ:List V->List V->Prop
 | [],[]=>True
 |a::l,b::m=>Yr a b/\JZ l m
 |_,_=>False
theorem JZ.len: ∀ {l m:List V},JZ l m->l.length=m.length
 | [],[],_=>rfl
 |_::_,_::_,h=>by simp [JZ.len h.2]
 | [],_::_,h=>h.elim
 |_::_,[],h=>h.elim
theorem JZ.getD: ∀ {l m:List V} (_:JZ l m) (k:Nat),Yr (l.getD k .dead) (m.getD k .dead)
 | [],[],_,_=>.inl (Sub.refl _)
 |_::_,_::_,h,0=>h.1
 |_::_,_::_,h,k+1=>JZ.getD h.2 k
 | [],_::_,h,_=>h.elim
 |_::_,[],h,_=>h.elim
theorem FC.sub1{P:Program}{f:FuncId}{args args':List V}{r:V}(h:FC P f args r)(hs:JZ args' args):FC P f args' r:=by
 intro w D cvs hk hD hsz hr;refine h w D cvs hk hD (by rw [hsz,hs.len]) fun i hi=>Rel.sub1 (hs.getD i) (hr i (by rw [hs.len];exact hi))
theorem IK{t:Ty}{x:t.T}{v:V}(h:v∈tyV t 0 x):Go.Ve.frz v=v:=by
 obtain⟨i,hi,rfl⟩:=List.getElem_of_mem h;have e:=By t 0 x;have:((tyV t 0 x).map frz)[i]'(by simpa using hi)=(tyV t 0 x)[i]:=by simp only [e]
 simpa using this
theorem Dp{σ:List V}: ∀ (t:Ty) (x:t.T),∀v∈tyV t 0 x,BQ σ v=v
 | .int _,_,v,h=>by simp [tyV]at h;subst h;rfl
 | .bool,_,v,h=>by simp [tyV]at h;subst h;rfl
 | .str,_,v,h=>by simp [tyV]at h;subst h;rfl
 | .sl t,x,v,h=>by
  have e:=IK (t:=.sl t) (x:=x) h;simp only [tyV,List.mem_singleton]at h;subst h;exact e
 | .ptr t,x,v,h=>by
  have e:=IK (t:=.ptr t) (x:=x) h;simp only [tyV,List.mem_singleton]at h;subst h;exact e
 | .unit,_,v,h=>by simp [tyV]at h
 | .pair a b,x,v,h=>by
  simp only [tyV,List.mem_append]at h;exact h.elim (Dp a x.1 v) (Dp b x.2 v)
 | .osl t,x,v,h=>by
  have e:=IK (t:=.osl t) (x:=x) h;simp only [tyV,List.mem_singleton]at h;subst h;cases x with
  |none=>rfl
  |some xs=>exact e
 | .clo g t,x,v,h=>by
  simp only [tyV,List.mem_singleton]at h;subst h;show(if Tg.cl g= .bx then _ else V.many (.cl g) t.w fun k=>BQ σ ((tyV t 0 x).getD k .dead))=_
  rw [if_neg (by intro h;cases h)]
  congr 1
  funext k
  by_cases hk:k<(tyV t 0 x).length
  ·rw [gDE,gEE hk]
   exact Dp t x _ (List.getElem_mem hk)
  ·rw [gDE,List.getElem?_eq_none (by omega)];rfl
theorem Ht: ∀ (t:Ty) (x:t.T),∀v∈tyV t 0 x,AE v=false
 | .int _,_,v,h=>by simp [tyV]at h;subst h;rfl
 | .bool,_,v,h=>by simp [tyV]at h;subst h;rfl
 | .str,_,v,h=>by simp [tyV]at h;subst h;rfl
 | .sl _,_,v,h=>by simp only [tyV,List.mem_singleton]at h;subst h;rfl
 | .ptr _,_,v,h=>by simp only [tyV,List.mem_singleton]at h;subst h;rfl
 | .unit,_,v,h=>by simp [tyV]at h
 | .pair a b,x,v,h=>by
  simp only [tyV,List.mem_append]at h;exact h.elim (Ht a x.1 v) (Ht b x.2 v)
 | .osl t,x,v,h=>by
  simp only [tyV,List.mem_singleton]at h;subst h;cases x<;>rfl
 | .clo g t,x,v,h=>by
  simp only [tyV,List.mem_singleton]at h;subst h;show((List.range t.w).any fun k=>AE ((tyV t 0 x).getD k .dead))=false
  rw [List.any_eq_false];intro k hk;have hk:k<(tyV t 0 x).length:=by rw [Av];exact List.mem_range.1 hk
  rw [gDE,gEE hk];simp [Ht t x _ (List.getElem_mem hk)]
theorem XY{σ:List V}{g:Nat}{u:Ty}{d:Nat}{x:u.T}:BQ σ (cV (.clo g u) d x)=Go.Ve.frz (cV (.clo g u) d x):=by
 have hm:cV (.clo g u) d x∈tyV (.clo g u) 0 x:=List.mem_singleton.2 rfl;rw [Dp _ _ _ hm,IK hm]
theorem Oy{s:St}{w:Nat}{y y':Cl}(h:LZ s w y=some y'):Yr (BQ (s.r.map Ae.v) (y.v s.r)) y'.v0/\y'.v0=y'.v s.r/\((∀id p i k,y≠.rp id p i k)->Sub (BQ (s.r.map Ae.v) (y.v s.r)) y'.v0):=by
 have both: ∀ {v v':V},Sub v v'->Yr v v'/\((∀id p i k,y≠.rp id p i k)->Sub v v'):=fun h=>⟨.inl h,fun _=>h⟩
 unfold LZ at h;split at h
 ·rename_i t d x
  cases ho:t.one with
  |false=>rw [ho]at h;cases h
  |true=>
   rw [ho]at h;cases h
   have:Sub (BQ (s.r.map Ae.v) (cV t d x)) (cV t 0 x):=by
    rw [<-Wi ho d x];cases t<;>first|exact Sub.refl _|(cases ho;done)|(cases x<;>exact Sub.refl _)|exact Sub.of_eq XY
   exact⟨(both this).1,rfl,(both this).2⟩
 ·cases h;exact⟨(both (Sub.refl _)).1,rfl,(both (Sub.refl _)).2⟩
 ·rename_i id p
  split at h
  case h_2=>cases h
  rename_i ro t d xs hn;cases h;have hne:Af s.r id p≠.dead:=by rw [hn];simp
  have:Sub (BQ (s.r.map Ae.v) (V.rs id p 0 (Af s.r id p).len)) (cV (.sl t) 0 xs):=by
   rw [Ou,AL hne,hn];show Sub (VY (arr true t.w (tyV t d) t.dflt xs) 0 xs.length) _;rw [Nm rfl];have e:(fun a=>(tyV t d a).map frz)=tyV t 0:=funext fun x=>By t d x
   rw [e];exact Sub.refl _
  exact⟨(both this).1,rfl,(both this).2⟩
 ·rename_i id p off len
  split at h
  case h_2=>cases h
  rename_i ro t d xs hn;cases h;have hne:Af s.r id p≠.dead:=by rw [hn];simp
  have:Sub (BQ (s.r.map Ae.v) (V.rs id p off len)) (cV (.sl t) 0 (Zz off len xs t.dflt)):=by
   rw [Ou,AL hne,hn];show Sub (VY (arr true t.w (tyV t d) t.dflt xs) off len) (arr false t.w (tyV t 0) t.dflt (Zz off len xs t.dflt));unfold arr;have hl:(Zz off len xs t.dflt).length=len:=by simp [Zz]
   rw [hl];refine⟨_,rfl,fun i k hi hk=>Sub.of_eq ?_⟩
   have hg:(Zz off len xs t.dflt).getD i t.dflt=xs.getD (off+i) t.dflt:=by simp [Zz,hi]
   rw [hg,<-By t d];exact(Aw (f:=frz) (a:=.dead) rfl (tyV t d (xs.getD (off+i) t.dflt)) k).symm
  exact⟨(both this).1,rfl,(both this).2⟩
 ·rename_i id p j k
  split at h
  ·rename_i ro l hn
   have hne:Af s.r id p≠.dead:=by rw [hn];simp
   split at h
   case h_2=>cases h
   cases hb:Nat.ble (k+w) l.length with
   |false=>rw [hb]at h;cases h
   |true=>
    rw [hb]at h;have hb:=blE hb;simp only [cond_true]at h;split at h
    case h_2=>cases h
    rename_i t x hf;cases h;refine⟨.inr ⟨l.length-k,w,1,fun i' k'=>([((l.drop k).map Cl.v0).map frz].getD i' []).getD k' .dead,?_,by omega,?_⟩,rfl,fun h=>absurd rfl (h _ _ _ _)⟩
    ·show BQ (s.r.map Ae.v) (V.rp id p 0 k)=_
     rw [Ov,AL hne,hn];show X0 (Bj true (l.map Cl.v0)) 0 k=_;rw [Kr];unfold Bj;simp only [List.map_drop,List.length_drop,List.length_map]
    ·show Sub _ (Bj false (tyV t 0 x))
     have e:=DX _ _ hf;unfold Bj;have hl:(tyV t 0 x).length=w:=by rw [e];simp;omega
     rw [hl];refine⟨_,rfl,fun i' k' hi hk=>?_⟩
     obtain rfl:i'=0:=by omega
     refine Sub.of_eq ?_;show(((l.drop k).map Cl.v0).map frz).getD k' .dead=(tyV t 0 x).getD k' .dead;rw [e];simp [List.getElem?_take,hk]
  ·rename_i ro t d xs hn
   have hne:Af s.r id p≠.dead:=by rw [hn];simp
   cases hb:Nat.ble (k+w) t.w with
   |false=>rw [hb]at h;cases h
   |true=>
    rw [hb]at h;have hb:=blE hb;simp only [cond_true]at h;split at h
    case h_2=>cases h
    rename_i t' x hd;cases h;refine⟨.inr ⟨t.w-k,w,1,fun i' j'=>if i'=0 then frz ((tyV t d (xs.getD j t.dflt)).getD (k+j') .dead)else .dead,?_,by omega,?_⟩,rfl,fun h=>absurd rfl (h _ _ _ _)⟩
    ·show BQ (s.r.map Ae.v) (V.rp id p j k)=_
     rw [Ov,AL hne,hn];rfl
    ·show Sub _ (Bj false (tyV t' 0 x))
     have e:=DX _ _ hd;rw [List.map_take,List.map_drop,Cf,List.map_take,List.map_drop,By]at e;unfold Bj;have hl:(tyV t' 0 x).length=w:=by rw [e];simp [Av];omega
     rw [hl];refine⟨_,rfl,fun i' k' hi hk=>?_⟩
     obtain rfl:i'=0:=by omega
     refine Sub.of_eq ?_;simp only [if_true];show _=(tyV t' 0 x).getD k' .dead;rw [e,<-By t d];have:=Aw (f:=frz) (a:=.dead) rfl (tyV t d (xs.getD j t.dflt)) (k+k');rw [<-this];simp only [gDE,List.getElem?_take,hk,if_true,List.getElem?_drop]
  ·cases h
 ·cases h
def Nn(s:St):List Cl->Option (List Cl)
 | []=>some []
 |y::l=>match(match y with
   | .rp _ _ _ _=>none
   |y=>LZ s 0 y)with
  |some y'=>match Nn s l with
   |some l'=>some (y'::l')
   |none=>none
  |none=>none
theorem Ow{s:St}: ∀ {l l':List Cl},Nn s l=some l'->C5 ((l.map (Cl.v s.r)).map (BQ (s.r.map Ae.v))) (l'.map (Cl.v s.r))
 | [],l',h=>by cases h;trivial
 |y::l,l',h=>by
  unfold Nn at h;split at h
  case h_2=>cases h
  rename_i y' hy;split at h
  case h_2=>cases h
  rename_i m hm;cases h;have hne: ∀id p i k,y≠.rp id p i k:=by rintro id p i k rfl;cases hy
  have hy:LZ s 0 y=some y':=by
   cases y with
   |rp id p i k=>exact absurd rfl (hne _ _ _ _)
   |_=>exact hy
  obtain⟨_,h2,h1⟩:=Oy hy;exact⟨by rw [<-h2];exact h1 hne,Ow hm⟩
def VZ(s:St):Cl->Option Cl
 | .rp id p i k=>match i,k with
  |0,0=>match Af s.r id p with
   | .obj _ l=>match JT l with
    |some ⟨t,x⟩=>some (.c (.ptr t) 0 x)
    |none=>none
   |_=>none
  |_,_=>none
 |y=>LZ s 0 y
theorem Aak{s:St}{y y':Cl}(h:VZ s y=some y'):Sub (BQ (s.r.map Ae.v) (y.v s.r)) y'.v0/\y'.v0=y'.v s.r:=by
 by_cases hc: ∃id p i k,y= .rp id p i k
 ·obtain⟨id,p,i,k,rfl⟩:=hc
  unfold VZ at h;simp only at h;split at h
  case h_2=>cases h
  split at h
  case h_2=>cases h
  rename_i ro l hn;split at h
  case h_2=>cases h
  rename_i t x hf;cases h;have hne:Af s.r id p≠.dead:=by rw [hn];simp
  refine⟨?_,rfl⟩;show Sub (BQ (s.r.map Ae.v) (V.rp id p 0 0)) (Bj false (tyV t 0 x));rw [Ov,AL hne,hn];show Sub (X0 (Bj true (l.map Cl.v0)) 0 0) _;rw [Kr,DX _ _ hf];exact Sub.refl _
 ·have hne: ∀id p i k,y≠.rp id p i k:=fun id p i k e=>hc ⟨id,p,i,k,e⟩
  have h:LZ s 0 y=some y':=by
   cases y with
   |rp id p i k=>exact absurd rfl (hne _ _ _ _)
   |_=>exact h
  obtain⟨_,h2,h1⟩:=Oy h;exact⟨h1 hne,h2⟩
def Jh(s:St):List Cl->Option (List Cl)
 | []=>some []
 |y::l=>match VZ s y with
  |some y'=>match Jh s l with
   |some l'=>some (y'::l')
   |none=>none
  |none=>none
theorem PL{s:St}: ∀ {l l':List Cl},Jh s l=some l'->C5 ((l.map (Cl.v s.r)).map (BQ (s.r.map Ae.v))) (l'.map (Cl.v s.r))
 | [],l',h=>by cases h;trivial
 |y::l,l',h=>by
  unfold Jh at h;split at h
  case h_2=>cases h
  rename_i y' hy;split at h
  case h_2=>cases h
  rename_i m hm;cases h;obtain⟨h1,h2⟩:=Aak hy;exact⟨by rw [<-h2];exact h1,PL hm⟩
theorem C5.pk{t:Tg}{l m:List V}(h:C5 l m):Sub (pkL t l) (pkL t m):=by
 unfold pkL;rw [h.len];exact⟨_,rfl,fun k _=>h.getD k⟩
def MH(s:St)(b:Bool)(t:Ty):Option Sl->Option t.T
 |some (.one y)=>bif b then none else bif t.one then(match LZ s (match t with
   | .ptr u=>u.w
   |_=>0) y with
  |some y'=>DT t 0 y'
  |none=>none)else none
 |some (.agg l)=>bif b then(match Nn s l with
  |some l'=>HT t 0 l'
  |none=>none)else none
 |some (.pk .bx l)=>bif b then none else(match t with
  | .ptr u=>(match Nn s l with
   |some l'=>HT u 0 l'
   |none=>none)
  |_=>none)
 |some (.pk (.cl g) l)=>bif b then none else(match t with
  | .clo g' u=>bif Nat.beq g g' then(match Jh s l with
   |some l'=>HT u 0 l'
   |none=>none)else none
  |_=>none)
 |_=>none
theorem C5.trans: ∀ {a b c:List V},C5 a b->C5 b c->C5 a c:=by
 intro a
 induction a with
 |nil=>intro b c h1 h2;cases b<;>first|exact h2|exact h1.elim
 |cons v a ih=>intro b c h1 h2;cases b with
  |nil=>exact h1.elim
  |cons w b=>cases c with
   |nil=>exact h2.elim
   |cons u c=>exact⟨h1.1.trans h2.1,ih h1.2 h2.2⟩
theorem UW{s:St}{b:Bool}{t:Ty}{x:Operand}{z:t.T}(h:MH s b t (s.ev x)=some z):Yr (BQ (s.r.map Ae.v) (s.den.ev x)) (vOf b t 0 z):=by
 unfold MH at h;split at h
 case h_5=>cases h
 ·rename_i y hy
  cases b with
  |true=>cases h
  |false=>
   cases ho:t.one with
   |false=>rw [ho]at h;cases h
   |true=>
    rw [ho]at h;simp only [cond_false,cond_true]at h;split at h
    case h_2=>cases h
    rename_i y' hl;obtain⟨h1,h2,_⟩:=Oy hl;obtain⟨g1,g2⟩:=Og h s.r;rw [A3 hy];have g1:Sub y'.v0 (vOf false t 0 z):=h2▸g1;rcases h1 with h1|⟨sz,sz',n,f,e1,e2,e3⟩
    ·exact .inl (h1.trans g1)
    ·exact .inr ⟨sz,sz',n,f,e1,e2,e3.trans g1⟩
 ·rename_i l hy
  cases b with
  |false=>cases h
  |true=>
   simp only [cond_true]at h;split at h
   case h_2=>cases h
   rename_i l' hl;rw [A3 hy];left;show Sub (BQ _ (Ai _)) (Ai _);rw [Aai];refine C5.mk ?_;have h1:=Ow hl;have h2:=(Hn h s.r).1;exact C5.trans h1 h2
 ·rename_i l hy
  cases b with
  |true=>cases h
  |false=>
   simp only [cond_false]at h;split at h
   case h_2=>cases h
   rename_i u;split at h
   case h_2=>cases h
   rename_i l' hl;rw [A3 hy];left;show Sub (BQ _ (Aa4 _)) (Bj false (tyV u 0 z));rw [XZ];exact C5.obj (C5.trans (Ow hl) (Hn h s.r).1)
 ·rename_i g l hy
  cases b with
  |true=>cases h
  |false=>
   simp only [cond_false]at h;split at h
   case h_2=>cases h
   rename_i g' u;cases hb:Nat.beq g g' with
   |false=>rw [hb]at h;cases h
   |true=>
    rw [hb]at h;simp only [cond_true]at h;have hg:=bqE hb;subst hg;split at h
    case h_2=>cases h
    rename_i l' hl;rw [A3 hy];left
    have e:V.many (.cl g) u.w (fun k=>(tyV u 0 z).getD k .dead)=pkL (.cl g) (tyV u 0 z):=by
     unfold pkL;rw [Av]
    show Sub (BQ _ (pkL (.cl g) _)) (V.many (.cl g) u.w fun k=>(tyV u 0 z).getD k .dead)
    rw [e,Aaj];exact C5.pk (C5.trans (PL hl) (Hn h s.r).1)
def MG(s:St):(l:List (Bool×Ty))->List (Option Sl)->Option (PT l).T
 | [],[]=>some ()
 | [p],[y]=>MH s p.1 p.2 y
 |p::q::l,y::ys=>match MH s p.1 p.2 y with
  |some z=>match MG s (q::l) ys with
   |some zs=>some (z,zs)
   |none=>none
  |none=>none
 |_,_=>none
def resC(b:Bool)(d:Nat)(t:Ty)(x:t.T):Bool×List Cl:=(b,Au t d x)
def QC(b:Bool)(p:Bool×Nat×Ty)(x:p.2.2.T):Bool×List Cl:=bif b|| !isP p then resC p.1 p.2.1 p.2.2 x else(false,[.nilp])
def resL(b:Bool):(l:List (Bool×Nat×Ty))->(RT l).T->List (Bool×List Cl)
 | [],_=>[]
 | [p],x=>[QC b p x]
 |p::q::l,x=>QC b p x.1::resL b (q::l) x.2
def YF(b:Bool)(l:List (Bool×Nat×Ty))(x:(RT l).T):Sl:=match resL b l x with
 | [(true,cs)]=>.agg cs
 | [(false,cs)]=>.one (cs.getD 0 .dead)
 |m=>.tup m
theorem ZP{r:List Ae}(b:Bool)(d:Nat)(t:Ty)(x:t.T)(h:b=true\/t.one=true):(if b then Ai ((Au t d x).map (Cl.v r))else((Au t d x).map (Cl.v r)).getD 0 .dead)=vOf b t d x:=by
 rw [Cl.v_c];cases b with
 |true=>rfl
 |false=>
  rcases h with h|h
  ·cases h
  ·show(tyV t d x).getD 0 .dead=cV t d x
   rw [BU h];rfl
def Dj:List (Bool×Nat×Ty)->Bool
 | []=>true
 |p::l=>(p.1||p.2.2.one)&&Dj l
theorem Pi{r:List Ae}(b:Bool)(p:Bool×Nat×Ty)(x:p.2.2.T)(h:p.1=true\/p.2.2.one=true):(if(QC b p x).1 then Ai ((QC b p x).2.map (Cl.v r))else((QC b p x).2.map (Cl.v r)).getD 0 .dead)=WX b p x:=by
 unfold QC WX;cases b|| !isP p with
 |true=>exact ZP (r:=r) p.1 p.2.1 p.2.2 x h
 |false=>rfl
theorem YG{r:List Ae}(b:Bool): ∀ (l:List (Bool×Nat×Ty)) (x:(RT l).T),Dj l=true->(resL b l x).map (fun p=>if p.1 then Ai (p.2.map (Cl.v r))else(p.2.map (Cl.v r)).getD 0 .dead)=Qz b l x
 | [],x,_=>rfl
 | [p],x,h=>by
  simp only [Dj,bAE,Bool.or_eq_true]at h;show [_]= [WX _ _ _];rw [<-Pi (r:=r) b p x h.1]
  first|done|rfl
 |p::q::l,x,h=>by
  have h':((p.1||p.2.2.one)&&Dj (q::l))=true:=h;simp only [bAE,Bool.or_eq_true]at h';show _::(resL b (q::l) x.2).map _=WX _ _ _::_;rw [YG b (q::l) x.2 h'.2,<-Pi (r:=r) b p x.1 h'.1]
  first|done|rfl
theorem Vi{r:List Ae}(b:Bool)(l:List (Bool×Nat×Ty))(x:(RT l).T)(h:Dj l=true):(YF b l x).v r=Io b l x:=by
 have e:=YG (r:=r) b l x h;unfold Io;rw [<-e];unfold YF;split
 ·rename_i cs hc
  rw [hc];rfl
 ·rename_i cs hc
  rw [hc];show(cs.getD 0 .dead).v r=(cs.map (Cl.v r)).getD 0 .dead;rw [Aw (f:=Cl.v r) (a:=.dead) rfl]
 ·rename_i m h1 h2
  generalize resL b l x=m at*;show CP _=LA _
  match m,h1,h2 with
  | [],_,_=>rfl
  | [(true,cs)],h1,_=>exact absurd rfl (h1 cs)
  | [(false,cs)],_,h2=>exact absurd rfl (h2 cs)
  |a::b::m,_,_=>rfl
def Ty.noFn:Ty->Bool
 | .clo _ _=>false
 | .osl _=>false
 | .sl t=>t.noFn
 | .ptr t=>t.noFn
 | .pair a b=>a.noFn&&b.noFn
 |_=>true
theorem BY: ∀ (t:Ty) (d:Nat) (x:t.T),t.dep<=d->t.noFn=true->∀v∈tyV t d x,Bt v
 | .int _,_,_,_,_,v,h=>by simp only [tyV,List.mem_singleton]at h;subst h;trivial
 | .bool,_,_,_,_,v,h=>by simp only [tyV,List.mem_singleton]at h;subst h;trivial
 | .str,_,_,_,_,v,h=>by simp only [tyV,List.mem_singleton]at h;subst h;trivial
 | .unit,_,_,_,_,v,h=>by cases h
 | .clo _ _,_,_,_,hf,_,_=>by cases hf
 | .osl _,_,_,_,hf,_,_=>by cases hf
 | .sl t,d,xs,hd,hf,v,h=>by
  simp only [Ty.dep]at hd;simp only [tyV,List.mem_singleton]at h;subst h;refine⟨dT (by omega),fun i k _ hk=>?_⟩
  exact BY t (d-1) _ (by omega) hf _ (Hx (by rw [Av];exact hk))
 | .ptr t,d,x,hd,hf,v,h=>by
  simp only [Ty.dep]at hd;simp only [tyV,List.mem_singleton]at h;subst h;refine⟨dT (by omega),fun i k hi hk=>?_⟩
  obtain rfl:i=0:=by omega
  exact BY t (d-1) _ (by omega) hf _ (Hx hk)
 | .pair a b,d,x,hd,hf,v,h=>by
  simp only [Ty.noFn,bAE]at hf;simp only [Ty.dep]at hd;rcases List.mem_append.1 h with h|h
  ·exact BY a d _ (by omega) hf.1 v h
  ·exact BY b d _ (by omega) hf.2 v h
def Cw:List (Bool×Nat×Ty)->Bool
 | []=>true
 |p::l=>Nat.ble p.2.2.dep p.2.1&&p.2.2.noFn&&(p.1||p.2.2.one)&&Cw l
theorem Oh(b:Bool)(d:Nat)(t:Ty)(x:t.T)(h:t.dep<=d)(hf:t.noFn=true)(h2:b=true\/t.one=true):Bt (vOf b t d x):=by
 cases b with
 |true=>
  show Bt (Ai _);rw [QV];exact BY t d x h hf
 |false=>
  rcases h2 with h2|h2
  ·cases h2
  ·exact BY t d x h hf _ (by rw [BU h2];exact List.mem_singleton.2 rfl)
theorem Id(b:Bool)(p:Bool×Nat×Ty)(x:p.2.2.T)(h:p.2.2.dep<=p.2.1)(hf:p.2.2.noFn=true)(h2:p.1=true\/p.2.2.one=true):Bt (WX b p x):=by
 unfold WX;cases b|| !isP p with
 |true=>exact Oh _ _ _ _ h hf h2
 |false=>trivial
theorem Ie(b:Bool): ∀ (l:List (Bool×Nat×Ty)) (x:(RT l).T),Cw l=true->∀v∈Qz b l x,Bt v
 | [],_,_,v,h=>by cases h
 | [p],x,hr,v,h=>by
  simp only [Cw,bAE,Bool.or_eq_true]at hr;rw [List.mem_singleton.1 h];exact Id b p x (blE hr.1.1.1) hr.1.1.2 hr.1.2
 |p::q::l,x,hr,v,h=>by
  have hr':(Nat.ble p.2.2.dep p.2.1&&p.2.2.noFn&&(p.1||p.2.2.one)&&Cw (q::l))=true:=hr;simp only [bAE,Bool.or_eq_true]at hr';rcases List.mem_cons.1 h with rfl|h
  ·exact Id b p x.1 (blE hr'.1.1.1) hr'.1.1.2 hr'.1.2
  ·exact Ie b (q::l) x.2 hr'.2 v h
theorem CZ(b:Bool)(l:List (Bool×Nat×Ty))(x:(RT l).T)(h:Cw l=true):Bt (Io b l x):=by
 have:=Ie b l x h;unfold Io LA;split
 ·rename_i v hv
  exact this v (by rw [hv];exact List.mem_singleton.2 rfl)
 ·have h2:=this
  rw [<-Oi]at h2;exact h2
def Cl.lent:Cl->Bool
 | .rf _ _=>true
 | .rs _ _ _ _=>true
 | .rp _ _ _ _=>true
 |y=>y.own
def Sl.lent:Sl->Bool
 | .one c=>c.lent
 | .agg l=>l.any Cl.lent
 | .pk _ l=>l.any Cl.lent
 |_=>true
def Hp(xs:List (Option Sl)):Bool:=xs.all fun x=>match x with
 |some y=>!y.lent
 |none=>false
theorem Cl.lent_v{r:List Ae}(c:Cl):c.lent=false->AE (c.v r)=false:=by
 intro h;cases c with
 |c t d x=>
  have h:(Cl.c t d x).own=false:=h;cases t<;>cases d<;>first|rfl|(cases h;done)|(cases x<;>first|rfl|(cases h;done))|exact Ht (.clo _ _) x _ (List.mem_singleton.2 rfl)
 |rf=>cases h
 |rs=>cases h
 |rp=>cases h
 |_=>rfl
theorem Nh{r:List Ae}(tg:Tg)(l:List Cl)(h:l.any Cl.lent=false):AE (.many tg (l.map (Cl.v r)).length fun k=>(l.map (Cl.v r)).getD k .dead)=false:=by
 show((List.range _).any fun k=>AE ((l.map (Cl.v r)).getD k .dead))=false
 rw [List.any_eq_false];intro k hk;have hk:k<l.length:=by simpa using hk
 rw [Aw (f:=Cl.v r) (a:=.dead) rfl]
 have:(l.getD k .dead).lent=false:=by
  have:=List.any_eq_false.1 h (l.getD k .dead) (by simp [gDE,hk])
  simpa using this
 rw [Cl.lent_v _ this];simp
theorem PB{s:St}{xs:List Operand}(h:Hp (xs.map s.ev)=true):(xs.map s.den.ev).any AE=false:=by
 rw [List.any_eq_false];intro v hv;obtain⟨x,hx,rfl⟩:=List.mem_map.1 hv;have h1:=aET.1 h (s.ev x) (List.mem_map.2 ⟨x,hx,rfl⟩);cases hy:s.ev x with
 |none=>rw [hy]at h1;cases h1
 |some y=>
  rw [hy]at h1;have h1:y.lent=false:=by simpa using h1
  rw [A3 hy]
  have:AE (y.v s.r)=false:=by
   cases y with
   |one c=>exact Cl.lent_v c h1
   |agg l=>exact Nh .ag l h1
   |pk t l=>exact Nh t l h1
   |new l=>cases h1
   |tup l=>cases h1
  rw [this];simp
def Dl(s:St):Option Sl->Option Sl
 |some (.one (.rf id p))=>match Af s.r id p with
  | .opt _ u _ x=>some (.one (.c (.sl u) 0 (getO x)))
  |_=>some (.one (.rf id p))
 |y=>y
def ON(s:St):Option Sl->List Bool
 |some (.one (.rf id p))=>match Af s.r id p with
  | .opt _ _ _ x=>[isO x]
  |_=>[]
 |_=>[]
def KN(s:St):List (Option Sl)->List Bool
 | []=>[]
 |y::l=>ON s y++KN s l
def gate{α:Type}:List Bool->Option α->Option α
 | [],o=>o
 |b::l,o=>WD b (gate l o) none
structure Un where
 α:Type
 o:Option α
 y:α->Sl
structure CallN where
 α:Type
 o:Option (Bool×α)
 y:Bool->α->Sl
def J2(e:En)(s:St)(xs:List (Option Sl)):Option Un:=
 bif Cw e.S.rs||(Dj e.S.rs&&Hp xs)then(match MG s e.S.ps (xs.map (Dl s))with
  |some z=>some ⟨(RT e.S.rs).T,gate (KN s xs) (e.g z),fun y=>YF true e.S.rs y⟩
  |none=>none)else none
def IR:List En->St->FuncId->List (Option Sl)->Option Un
 | [],_,_,_=>none
 |e::Γ,s,f,xs=>bif Nat.beq e.f f then(match J2 e s xs with
  |some a=>some a
  |none=>IR Γ s f xs)else IR Γ s f xs
theorem Iv{s:St}{f:FuncId}{xs:List (Option Sl)}{a:Un}: ∀ {Γ:List En},IR Γ s f xs=some a->∃e∈Γ,e.f=f/\J2 e s xs=some a
 | [],h=>by cases h
 |e::Γ,h=>by
  have back:IR Γ s f xs=some a->∃e'∈e::Γ,e'.f=f/\J2 e' s xs=some a:=fun h=>by
   obtain⟨e',h1,h2⟩:=Iv h;exact⟨e',mCM _ h1,h2⟩
  unfold IR at h;cases hb:Nat.beq e.f f with
  |false=>rw [hb]at h;exact back h
  |true=>
   rw [hb]at h;simp only [cond_true]at h;split at h
   ·rename_i a' ha
    cases h;exact⟨e,List.mem_cons_self ..,bqE hb,ha⟩
   ·exact back h
def UU(Γ:List EnN)(s:St)(f:FuncId)(xs:List (Option Sl)):Option CallN:=
 match PJ Γ f with
 |some e=>bif Cw e.S.rs||(Dj e.S.rs&&Hp xs)then(match MG s e.S.ps (xs.map (Dl s))with
  |some z=>some ⟨(RT e.S.rs).T,gate (KN s xs) (e.g z),fun b y=>YF b e.S.rs y⟩
  |none=>none)else none
 |none=>none
theorem Hh: ∀ {l:List (Bool×Nat×Ty)},Cw l=true->Dj l=true
 | [],_=>rfl
 |p::l,h=>by
  simp only [Cw,bAE]at h;simp only [Dj,bAE];exact⟨h.1.2,Hh h.2⟩
theorem Aam{t1 t2:Nat->Sl}{r:List Ae}{w:Nat}{y:Cl}:LZ ⟨t1,r⟩ w y=LZ ⟨t2,r⟩ w y:=by cases y<;>rfl
theorem Ox{t1 t2:Nat->Sl}{r:List Ae}: ∀l:List Cl,Nn ⟨t1,r⟩ l=Nn ⟨t2,r⟩ l
 | []=>rfl
 |y::l=>by
  unfold Nn;rw [Ox (t1:=t1) (t2:=t2) l];cases y<;>rfl
theorem Aal{t1 t2:Nat->Sl}{r:List Ae}{y:Cl}:VZ ⟨t1,r⟩ y=VZ ⟨t2,r⟩ y:=by
 cases y with
 |rp id p i k=>cases i<;>cases k<;>rfl
 |_=>rfl
theorem PM{t1 t2:Nat->Sl}{r:List Ae}: ∀l:List Cl,Jh ⟨t1,r⟩ l=Jh ⟨t2,r⟩ l
 | []=>rfl
 |y::l=>by
  unfold Jh;rw [PM (t1:=t1) (t2:=t2) l,Aal (t1:=t1) (t2:=t2)]
theorem Yy{t1 t2:Nat->Sl}{r:List Ae}{b:Bool}{t:Ty}{o:Option Sl}:MH ⟨t1,r⟩ b t o=MH ⟨t2,r⟩ b t o:=by
 cases o with
 |none=>rfl
 |some y=>
  cases y with
  |one y=>unfold MH;simp only [Aam (t1:=t1) (t2:=t2)]
  |agg l=>unfold MH;simp only [Ox (t1:=t1) (t2:=t2)]
  |pk t l=>cases t<;>first|rfl|(unfold MH;simp only [PM (t1:=t1) (t2:=t2)];done)|(unfold MH;simp only [Ox (t1:=t1) (t2:=t2)];done)
  |_=>rfl
theorem tArg_y{s:St}{b:Bool}{t:Ty}{y:Sl}{z:t.T}(h:MH s b t (some y)=some z):Yr (BQ (s.r.map Ae.v) (y.v s.r)) (vOf b t 0 z):=
 UW (s:=⟨fun _=>y,s.r⟩) (x:=.tmp 0) (by
  have:MH ⟨fun _=>y,s.r⟩ b t (some y)=some z:=by rw [<-h];exact Yy
  exact this)
theorem Dt{α:Type}{u:α}: ∀ {l:List Bool} {o:Option α},gate l o=some u->o=some u/\∀b∈l,b=true
 | [],_,h=>⟨h,fun _ h=>by cases h⟩
 |b::l,o,h=>by
  unfold gate at h;cases b with
  |false=>cases h
  |true=>
   obtain⟨h1,h2⟩:=Dt (l:=l) (o:=o) h;exact⟨h1,fun c hc=>(List.mem_cons.1 hc).elim id (h2 c)⟩
theorem Oj{s:St}{b:Bool}{t:Ty}{x:Operand}{z:t.T}(h:MH s b t (Dl s (s.ev x))=some z)(hc: ∀c∈ON s (s.ev x),c=true):Yr (BQ (s.r.map Ae.v) (s.den.ev x)) (vOf b t 0 z):=by
 cases hx:s.ev x with
 |none=>rw [hx]at h;exact UW (by rw [hx];exact h)
 |some y=>
  by_cases hy: ∃id p ro u d v,y= .one (.rf id p)/\Af s.r id p= .opt ro u d v
  ·obtain⟨id,p,ro,u,d,v,rfl,hn⟩:=hy
   rw [hx]at h hc;simp only [Dl,ON,hn]at h hc;have hv:isO v=true:=hc _ (List.mem_singleton.2 rfl);cases v with
   |none=>cases hv
   |some ys=>
    have h2:=tArg_y h;have e1:BQ (s.r.map Ae.v) ((Sl.one (.c (.sl u) 0 ys)).v s.r)=cV (.sl u) 0 ys:=Dp (.sl u) ys _ (List.mem_singleton.2 rfl);have e1':BQ (s.r.map Ae.v) ((Sl.one (.c (.sl u) 0 (getO (some ys)))).v s.r)=cV (.sl u) 0 ys:=e1;rw [e1']at h2
    have e2:BQ (s.r.map Ae.v) (s.den.ev x)=cV (.sl u) 0 ys:=by
     rw [A3 hx];show BQ (s.r.map Ae.v) (V.rs id p 0 (Af s.r id p).len)=_;rw [Ou,AL (by rw [hn];simp),hn]
     show VY (arr true u.w (tyV u d) u.dflt ys) 0 ys.length=_;rw [Nm rfl];have e:(fun a=>(tyV u d a).map frz)=tyV u 0:=funext fun x=>By u d x
     rw [e];rfl
    rw [e2];exact h2
  ·have e:Dl s (some y)=some y:=by
    cases y with
    |one c=>
     cases c with
     |rf id p=>
      cases hn:Af s.r id p with
      |opt ro u d v=>exact absurd ⟨id,p,ro,u,d,v,rfl,hn⟩ hy
      |_=>simp only [Dl,hn]
     |_=>rfl
    |_=>rfl
   rw [hx,e,<-hx]at h;exact UW h
theorem VH{s:St}{b:Bool}{t:Ty}{y:Sl}{z:t.T}(h:MH s b t (Dl s (some y))=some z)(hc: ∀c∈ON s (some y),c=true):Yr (BQ (s.r.map Ae.v) (y.v s.r)) (vOf b t 0 z):=by
 have e1:Dl ⟨fun _=>y,s.r⟩ (some y)=Dl s (some y):=by
  cases y with
  |one c=>cases c<;>rfl
  |_=>rfl
 have e2:ON ⟨fun _=>y,s.r⟩ (some y)=ON s (some y):=by
  cases y with
  |one c=>cases c<;>rfl
  |_=>rfl
 refine Oj (s:=⟨fun _=>y,s.r⟩) (x:=.tmp 0) ?_ ?_
 ·show MH ⟨fun _=>y,s.r⟩ b t (Dl ⟨fun _=>y,s.r⟩ (some y))=some z
  rw [e1,<-h];exact Yy
 ·show ∀c∈ON ⟨fun _=>y,s.r⟩ (some y),c=true
  rw [e2];exact hc
theorem Lg{s:St}: ∀ (l:List (Bool×Ty)) (ys:List Sl) (z:(PT l).T),MG s l ((ys.map some).map (Dl s))=some z->(∀c∈KN s (ys.map some),c=true)->JZ ((ys.map (Sl.v s.r)).map (BQ (s.r.map Ae.v))) (DJ l z)
 | [],[],z,h,_=>trivial
 | [p],[y],z,h,hc=>⟨VH h fun c h=>hc c (List.mem_append_left _ h),trivial⟩
 |p::q::l,y::ys,z,h,hc=>by
  have h:(match MH s p.1 p.2 (Dl s (some y))with
   |some z=>match MG s (q::l) ((ys.map some).map (Dl s))with
    |some zs=>some (z,zs)
    |none=>none
   |none=>none:Option (PT (p::q::l)).T)=some z:=h
  split at h
  case h_2=>cases h
  rename_i z1 h1;split at h
  case h_2=>cases h
  rename_i zs h2;cases h;exact⟨VH h1 fun c h=>hc c (List.mem_append_left _ h),Lg (q::l) ys zs h2 fun c h=>hc c (List.mem_append_right _ h)⟩
 | [],_::_,_,h,_=>by cases h
 | [_],[],_,h,_=>by cases h
 | [_],_::_::_,_,h,_=>by cases h
 |_::_::_,[],_,h,_=>by cases h
theorem Pd{s:St}: ∀ (l:List (Bool×Ty)) (xs:List Operand) (z:(PT l).T),MG s l ((xs.map s.ev).map (Dl s))=some z->(∀c∈KN s (xs.map s.ev),c=true)->JZ ((xs.map s.den.ev).map (BQ (s.r.map Ae.v))) (DJ l z)
 | [],[],z,h,_=>trivial
 | [p],[x],z,h,hc=>⟨Oj h fun c h=>hc c (List.mem_append_left _ h),trivial⟩
 |p::q::l,x::xs,z,h,hc=>by
  have h:(match MH s p.1 p.2 (Dl s (s.ev x))with
   |some z=>match MG s (q::l) ((xs.map s.ev).map (Dl s))with
    |some zs=>some (z,zs)
    |none=>none
   |none=>none:Option (PT (p::q::l)).T)=some z:=h
  split at h
  case h_2=>cases h
  rename_i z1 h1;split at h
  case h_2=>cases h
  rename_i zs h2;cases h;exact⟨Oj h1 fun c h=>hc c (List.mem_append_left _ h),Pd (q::l) xs zs h2 fun c h=>hc c (List.mem_append_right _ h)⟩
 | [],_::_,_,h,_=>by cases h
 | [_],[],_,h,_=>by cases h
 | [_],_::_::_,_,h,_=>by cases h
 |_::_::_,[],_,h,_=>by cases h
theorem KV{P:Program}{s:St}{f:FuncId}{xs:Array Operand}{ats}{ps:List (Bool×Ty)}{rs:List (Bool×Nat×Ty)}{z:(PT ps).T}{b:Bool}{u:(RT rs).T}(hc:Bi P f=true)(hft:FC P f (DJ ps z) (Io b rs u))(hz:MG s ps ((xs.toList.map s.ev).map (Dl s))=some z)(hcd: ∀c∈KN s (xs.toList.map s.ev),c=true)
  (ho:(Cw rs||(Dj rs&&Hp (xs.toList.map s.ev)))=true):QS P s (.call ⟨.value (.func f),xs,ats⟩) (YF b rs u):=by
 show Call P f ((xs.toList.map s.den.ev).any AE) ((xs.toList.map s.den.ev).map (BQ (s.r.map Ae.v))) (SK s _);rw [Bool.or_eq_true,bAE]at ho;have hok:Dj rs=true:=ho.elim Hh (·.1)
 refine⟨Io b rs u,⟨hc,hft.sub1 (Pd _ _ _ hz hcd)⟩,fun hl=>?_,?_⟩
 ·rcases ho with ho|⟨_,ho⟩
  ·exact CZ _ _ _ ho
  ·rw [PB ho]at hl;cases hl
 ·show Sub _ ((YF b rs u).v s.r)
  rw [Vi _ _ _ hok];exact Sub.refl _
theorem NY{P:Program}{Γ:List En}(hΓ:It P Γ){s:St}{f:FuncId}{xs ats}{a:Un}(h:IR Γ s f (xs.toList.map s.ev)=some a){u:a.α}(hu:a.o=some u):QS P s (.call ⟨.value (.func f),xs,ats⟩) (a.y u):=by
 obtain⟨e,he,hef,hx⟩:=Iv h;subst hef;clear h;unfold J2 at hx;have h:=hx;clear hx;cases ho:(Cw e.S.rs||(Dj e.S.rs&&Hp (xs.toList.map s.ev)))with
 |false=>rw [ho]at h;cases h
 |true=>
  rw [ho]at h;simp only [cond_true]at h;split at h
  case h_2=>cases h
  rename_i z hz;cases h;obtain⟨hc,hft⟩:=hΓ e he;obtain⟨hu,hcd⟩:=Dt hu;exact KV hc (by rw [Lt];exact hft z u hu) hz hcd ho
theorem ME{P:Program}{Γ:List EnN}(hΓ: ∀e∈Γ,e.OK P){s:St}{f:FuncId}{xs ats}{a:CallN}(h:UU Γ s f (xs.toList.map s.ev)=some a){b:Bool}{u:a.α}(hu:a.o=some (b,u)):QS P s (.call ⟨.value (.func f),xs,ats⟩) (a.y b u):=by
 unfold UU at h;split at h
 case h_2=>cases h
 rename_i e he;cases ho:(Cw e.S.rs||(Dj e.S.rs&&Hp (xs.toList.map s.ev)))with
 |false=>rw [ho]at h;cases h
 |true=>
  rw [ho]at h;simp only [cond_true]at h;split at h
  case h_2=>cases h
  rename_i z hz;cases h;obtain⟨⟨hc,hft⟩,rfl⟩:=PI hΓ he;obtain⟨hu,hcd⟩:=Dt hu;exact KV hc (hft z b u hu) hz hcd ho
theorem PA{s:St}{ys:List Sl}(h:Hp (ys.map some)=true):(ys.map (Sl.v s.r)).any AE=false:=by
 have:=PB (s:=⟨fun i=>ys.getD i (.one .dead),s.r⟩) (xs:=(List.range ys.length).map Operand.tmp) (by
  have e:((List.range ys.length).map Operand.tmp).map (St.ev ⟨fun i=>ys.getD i (.one .dead),s.r⟩)=ys.map some:=by
   rw [List.map_map];apply List.ext_getElem (by simp)
   intro i h1 h2;have hi:i<ys.length:=by simpa using h1
   have:(St.ev ⟨fun i=>ys.getD i (.one .dead),s.r⟩ (.tmp i))=some (ys.getD i (.one .dead)):=rfl
   simp only [List.getElem_map,List.getElem_range,Function.comp];show some (ys.getD i (.one .dead))=_;simp [hi]
  rw [e];exact h)
 have e2:((List.range ys.length).map Operand.tmp).map (St.den ⟨fun i=>ys.getD i (.one .dead),s.r⟩).ev=ys.map (Sl.v s.r):=by
  rw [List.map_map];apply List.ext_getElem (by simp)
  intro i h1 h2;have hi:i<ys.length:=by simpa using h1
  have:(St.den ⟨fun i=>ys.getD i (.one .dead),s.r⟩).ev (.tmp i)=(ys.getD i (.one .dead)).v s.r:=rfl
  simp only [List.getElem_map,List.getElem_range,Function.comp];show(ys.getD i (.one .dead)).v s.r=_;simp [hi]
 rw [e2]at this;exact this
def allS:List (Option Sl)->Option (List Sl)
 | []=>some []
 |some y::l=>match allS l with
  |some m=>some (y::m)
  |none=>none
 |none::_=>none
theorem WM{s:St}: ∀ {xs:List Operand} {ys:List Sl},allS (xs.map s.ev)=some ys->xs.map s.den.ev=ys.map (Sl.v s.r)
 | [],ys,h=>by cases h;rfl
 |x::xs,ys,h=>by
  rw [List.map_cons]at h;cases hx:s.ev x with
  |none=>rw [hx]at h;cases h
  |some y=>
   rw [hx]at h;unfold allS at h;split at h
   case h_2=>cases h
   rename_i m hm;cases h;rw [List.map_cons,List.map_cons,A3 hx,WM hm]
def cloS(s:St)(y:Nat):Option (FuncId×List Sl):=match s.t y with
 | .one (.c (.clo g t) _ x)=>bif Nat.blt g 1000000 then some (g,(Au t 0 x).map .one)else none
 |_=>none
def cloF(s:St):Op->Option (FuncId×List Sl)
 | .call c=>match c.callee with
  | .value (.tmp y)=>match cloS s y,allS (c.args.toList.map s.ev)with
   |some (g,cs),some ys=>some (g,ys++cs)
   |_,_=>none
  |_=>none
 |_=>none
theorem Uh{P:Program}{Γ:List En}(hΓ:It P Γ){s:St}{op:Op}{g:FuncId}{ys:List Sl}{a:Un}(hf:cloF s op=some (g,ys))(h:IR Γ s g (ys.map some)=some a){u:a.α}(hu:a.o=some u):QS P s op (a.y u):=by
 unfold cloF at hf;split at hf
 case h_2=>cases hf
 rename_i c;obtain⟨callee,xs,ats⟩:=c;split at hf
 case h_2=>cases hf
 rename_i y hcal;have hcal:callee= .value (.tmp y):=hcal;subst hcal;split at hf
 case h_2=>cases hf
 rename_i g' cs zs hcs hzs;cases hf;unfold cloS at hcs;split at hcs
 case h_2=>cases hcs
 rename_i g2 t d x hy;cases hlt:Nat.blt g2 1000000 with
 |false=>rw [hlt]at hcs;cases hcs
 |true=>
 rw [hlt]at hcs;cases hcs;obtain⟨e,he,hef,hx⟩:=Iv h;subst hef;clear h;unfold J2 at hx;have h:=hx;clear hx;cases ho:(Cw e.S.rs||(Dj e.S.rs&&Hp ((zs++(Au t 0 x).map Sl.one).map some)))with
 |false=>rw [ho]at h;cases h
 |true=>
  rw [ho]at h;simp only [cond_true]at h;split at h
  case h_2=>cases h
  rename_i z hz;cases h;obtain⟨hc,hft⟩:=hΓ e he;obtain⟨hu,hcd⟩:=Dt hu
  have hev:s.den.ev (.tmp y)= .many (.cl e.f) t.w fun k=>(tyV t 0 x).getD k .dead:=by
   show(s.t y).v s.r=_;rw [hy];rfl
  have htab:(xs.toList.map s.den.ev)++tab t.w (fun k=>(tyV t 0 x).getD k .dead)=(zs++(Au t 0 x).map Sl.one).map (Sl.v s.r):=by
   rw [WM hzs,List.map_append]
   congr 1
   have h1:tab t.w (fun k=>(tyV t 0 x).getD k .dead)=tyV t 0 x:=by
    have:=Iu (l:=tyV t 0 x) t.w (by rw [Av];exact Nat.le_refl _)
    rw [this];exact List.take_of_length_le (by rw [Av];exact Nat.le_refl _)
   rw [h1,List.map_map];exact(Cl.v_c (r:=s.r) t 0 x).symm
  rw [Bool.or_eq_true,bAE]at ho;have hok:Dj e.S.rs=true:=ho.elim Hh (·.1)
  show M2 P (s.r.map Ae.v) (s.den.ev (.tmp y)) (xs.toList.map s.den.ev) (SK s _);rw [hev];show Nat.blt e.f 1000000=true/\Call P e.f (((xs.toList.map s.den.ev)++tab t.w (fun k=>(tyV t 0 x).getD k .dead)).any AE) (((xs.toList.map s.den.ev)++tab t.w (fun k=>(tyV t 0 x).getD k .dead)).map (BQ (s.r.map Ae.v))) (SK s _)
  rw [htab];refine⟨hlt,Io true e.S.rs u,⟨hc,FC.sub1 (by rw [Lt];exact hft z u hu) (Lg _ _ _ hz hcd)⟩,fun hl=>?_,?_⟩
  ·rcases ho with ho|⟨_,ho⟩
   ·exact CZ _ _ _ ho
   ·rw [PA ho]at hl;cases hl
  ·show Sub _ ((YF true e.S.rs u).v s.r)
   rw [Vi _ _ _ hok];exact Sub.refl _
def strB(a b:String):Bool:=a==b
def XT:List (String×Nat)->String->Option Nat
 | [],_=>none
 |(a,f)::l,s=>bif strB a s then some f else XT l s
theorem Ni{s:String}{f:Nat}: ∀ {l:List (String×Nat)},XT l s=some f->(s,f)∈l
 | [],h=>by cases h
 |(a,f')::l,h=>by
  unfold XT at h;cases hb:strB a s with
  |false=>rw [hb]at h;exact mCM _ (Ni h)
  |true=>
   rw [hb]at h;cases h;have:a=s:=by unfold strB at hb;simpa using hb
   rw [this];exact List.mem_cons_self ..
def cloI(Θ:Tab)(s:St):Op->Option (FuncId×List Sl)
 | .call c=>match c.callee with
  | .invoke (.tmp y) nm=>match s.t y with
   | .one (.c (.clo g t) _ x)=>bif Nat.ble 1000000 g&&Nat.beq t.w 1 then(match Θ.look (g-1000000)with
    |some i=>match XT i.met nm,allS (c.args.toList.map s.ev)with
     |some f,some ys=>some (f,(Au t 0 x).map .one++ys)
     |_,_=>none
    |none=>none)else none
   |_=>none
  |_=>none
 |_=>none
theorem Ug{P:Program}{Θ:Tab}(hΘ:Θ.OK P){Γ:List En}(hΓ:It P Γ){s:St}{op:Op}{g:FuncId}{ys:List Sl}{a:Un}(hf:cloI Θ s op=some (g,ys))(h:IR Γ s g (ys.map some)=some a){u:a.α}(hu:a.o=some u):QS P s op (a.y u):=by
 unfold cloI at hf;split at hf
 case h_2=>cases hf
 rename_i c;obtain⟨callee,xs,ats⟩:=c;split at hf
 case h_2=>cases hf
 rename_i y nm hcal;have hcal:callee= .invoke (.tmp y) nm:=hcal;subst hcal;split at hf
 case h_2=>cases hf
 rename_i g2 t d x hy;cases hgt:(Nat.ble 1000000 g2&&Nat.beq t.w 1)with
 |false=>rw [hgt]at hf;cases hf
 |true=>
 rw [hgt]at hf;simp only [cond_true]at hf;rw [bAE]at hgt;obtain⟨hg1,hg2⟩:=hgt;have hg1:=blE hg1;have hg2:t.w=1:=bqE hg2;split at hf
 case h_2=>cases hf
 rename_i i hi;split at hf
 case h_2=>cases hf
 rename_i f zs hfm hzs;cases hf;have hmet:=hΘ.met hi (Ni hfm);obtain⟨e,he,hef,hx⟩:=Iv h;subst hef;clear h;unfold J2 at hx;have h:=hx;clear hx;cases ho:(Cw e.S.rs||(Dj e.S.rs&&Hp (((Au t 0 x).map Sl.one++zs).map some)))with
 |false=>rw [ho]at h;cases h
 |true=>
  rw [ho]at h;simp only [cond_true]at h;split at h
  case h_2=>cases h
  rename_i z hz;cases h;obtain⟨hc,hft⟩:=hΓ e he;obtain⟨hu,hcd⟩:=Dt hu
  have hev:s.den.ev (.tmp y)= .many (.cl g2) t.w fun k=>(tyV t 0 x).getD k .dead:=by
   show(s.t y).v s.r=_;rw [hy];rfl
  have htab:tab t.w (fun k=>(tyV t 0 x).getD k .dead)++(xs.toList.map s.den.ev)=((Au t 0 x).map Sl.one++zs).map (Sl.v s.r):=by
   rw [WM hzs,List.map_append]
   congr 1
   have h1:tab t.w (fun k=>(tyV t 0 x).getD k .dead)=tyV t 0 x:=by
    have:=Iu (l:=tyV t 0 x) t.w (by rw [Av];exact Nat.le_refl _)
    rw [this];exact List.take_of_length_le (by rw [Av];exact Nat.le_refl _)
   rw [h1,List.map_map];exact(Cl.v_c (r:=s.r) t 0 x).symm
  rw [Bool.or_eq_true,bAE]at ho;have hok:Dj e.S.rs=true:=ho.elim Hh (·.1)
  show M5 P (s.r.map Ae.v) (s.den.ev (.tmp y)) nm (xs.toList.map s.den.ev) (SK s _);rw [hev];show ∃t' fn,(g2=1000000+t'/\t.w=1/\XS P t' nm=some fn)/\Call P fn ((tab t.w (fun k=>(tyV t 0 x).getD k .dead)++(xs.toList.map s.den.ev)).any AE) ((tab t.w (fun k=>(tyV t 0 x).getD k .dead)++(xs.toList.map s.den.ev)).map (BQ (s.r.map Ae.v))) (SK s _)
  rw [htab];refine⟨g2-1000000,e.f,⟨by omega,hg2,hmet⟩,Io true e.S.rs u,⟨hc,FC.sub1 (by rw [Lt];exact hft z u hu) (Lg _ _ _ hz hcd)⟩,fun hl=>?_,?_⟩
  ·rcases ho with ho|⟨_,ho⟩
   ·exact CZ _ _ _ ho
   ·rw [PA ho]at hl;cases hl
  ·show Sub _ ((YF true e.S.rs u).v s.r)
   rw [Vi _ _ _ hok];exact Sub.refl _
def capL(s:St):List Operand->Option (List Cl)
 | []=>some []
 |x::xs=>match s.ev x with
  |some (.one (.c t d y))=>bif t.one&& !(Cl.c t d y).own then(match capL s xs with
   |some l=>some (.c t 0 y::l)
   |none=>none)else none
  |_=>none
def capR(s:St):List Operand->Option (List Cl)
 | []=>some []
 |x::xs=>match s.ev x with
  |some (.one y)=>bif y.own then none else(match capR s xs with
   |some l=>some (y::l)
   |none=>none)
  |_=>none
theorem Za{s:St}: ∀ {xs:List Operand} {l:List Cl},capR s xs=some l->xs.map s.den.ev=l.map (Cl.v s.r)/\(xs.map s.den.ev).all (fun v=>!AH v)=true
 | [],l,h=>by cases h;exact⟨rfl,rfl⟩
 |x::xs,l,h=>by
  unfold capR at h;split at h
  case h_2=>cases h
  rename_i y hx;cases hb:y.own with
  |true=>rw [hb]at h;cases h
  |false=>
   rw [hb]at h;simp only [cond_false]at h;split at h
   case h_2=>cases h
   rename_i m hm;cases h;obtain⟨h1,h2⟩:=Za hm;have hev:s.den.ev x=y.v s.r:=A3 hx;refine⟨by rw [List.map_cons,List.map_cons,hev,h1],?_⟩
   rw [List.map_cons,List.all_cons,hev,Cl.own_v,hb,h2];rfl
def tMkG(g:Nat)(s:St)(caps:List Operand):Option TR:=match capL s caps with
  |some l=>match JT l with
   |some ⟨t,x⟩=>some (.ok (.one (.c (.clo g t) 0 x)))
   |none=>none
  |none=>match capR s caps with
   |some l=>some (.ok (.pk (.cl g) l))
   |none=>none
def tMkF(s:St)(fn:Fn)(first:List Operand)(caps:List Operand):Option TR:=match fn,first with
 | .func g,[]=>bif Nat.blt g 1000000 then tMkG g s caps else none
 |_,_=>none
def tMkI(Θ:Tab)(s:St)(t:TypeId)(x:Operand):Option TR:=match Θ.look t with
 |some i=>match i.met with
  | []=>none
  |_::_=>tMkG (1000000+t) s [x]
 |none=>none
theorem Zb{s:St}: ∀ {xs:List Operand} {l:List Cl},capL s xs=some l->xs.map s.den.ev=(l.map Cl.v0).map frz/\(xs.map s.den.ev).all (fun v=>!AH v)=true/\l.length=xs.length
 | [],l,h=>by cases h;exact⟨rfl,rfl,rfl⟩
 |x::xs,l,h=>by
  unfold capL at h;split at h
  case h_2=>cases h
  rename_i t d y hx;cases hb:(t.one&& !(Cl.c t d y).own)with
  |false=>rw [hb]at h;cases h
  |true=>
   rw [hb]at h;simp only [cond_true]at h;split at h
   case h_2=>cases h
   rename_i m hm;cases h;rw [bAE]at hb;obtain⟨h1,h2,h3⟩:=Zb hm;have hev:s.den.ev x=cV t d y:=A3 hx
   have hown:AH (cV t d y)=false:=by
    have:=Cl.own_v (r:=s.r) (.c t d y);have e:(Cl.c t d y).own=false:=by simpa using hb.2
    rw [e]at this;exact this
   have hz:cV t d y=frz (cV t 0 y):=by
    rw [Wi hb.1];cases t<;>first|rfl|(cases d<;>first|rfl|(cases hown;done))|(cases y<;>cases d<;>first|rfl|(cases hown;done))
   refine⟨?_,?_,by simp [h3]⟩
   ·rw [List.map_cons,List.map_cons,List.map_cons,hev,h1,hz];rfl
   ·rw [List.map_cons,List.all_cons,hev,hown,h2];rfl
theorem Yx{g:Nat}{s:St}{caps:List Operand}{a:TR}(h:tMkG g s caps=some a): ∃y,a= .ok y/\(caps.map s.den.ev).all (fun v=>!AH v)=true/\Sub (V.many (.cl g) (caps.map s.den.ev).length fun k=>(caps.map s.den.ev).getD k .dead) (y.v s.r):=by
 unfold tMkG at h;split at h
 case h_2=>
  split at h
  case h_2=>cases h
  rename_i l hl;cases h;obtain⟨h1,h2⟩:=Za hl;refine⟨_,rfl,h2,?_⟩;show Sub _ (pkL (.cl g) (l.map (Cl.v s.r)));rw [h1];exact Sub.refl _
 rename_i l hl;split at h
 case h_2=>cases h
 rename_i t x hd;cases h;obtain⟨h1,h2,h3⟩:=Zb hl;have e:=DX _ _ hd;refine⟨_,rfl,h2,?_⟩;show Sub _ (V.many (.cl g) t.w fun k=>(tyV t 0 x).getD k .dead)
 rw [h1,<-e,Av];exact Sub.refl _
theorem Qm{P:Program}{s:St}{fn:Fn}{first caps:Array Operand}{a:TR}(h:tMkF s fn first.toList caps.toList=some a):QS P s (.makeFunc fn first caps) a.y:=by
 unfold tMkF at h;split at h
 case h_2=>cases h
 rename_i g hf;cases hlt:Nat.blt g 1000000 with
 |false=>rw [hlt]at h;cases h
 |true=>
 rw [hlt]at h;obtain⟨y,rfl,h1,h2⟩:=Yx h
 show(match Fn.func g,first.toList with
  | .func g,[]=>qMkF g (caps.toList.map s.den.ev) (SK s _)
  |_,_=>False)
 rw [hf];exact⟨⟨hlt,h1⟩,h2⟩
theorem Ql{P:Program}{Θ:Tab}(hΘ:Θ.OK P){s:St}{t:TypeId}{x:Operand}{a:TR}(h:tMkI Θ s t x=some a):QS P s (.makeInterface t x) a.y:=by
 unfold tMkI at h;split at h
 case h_2=>cases h
 rename_i i hi;split at h
 ·cases h
 rename_i p l hm;obtain⟨y,rfl,h1,h2⟩:=Yx h;have hu:=XR (hΘ.met hi (nm:=p.1) (f:=p.2) (by rw [hm];exact List.mem_cons_self ..))
 have h1:AH (s.den.ev x)=false:=by simpa using h1
 refine⟨⟨h1,hu⟩,Sub.trans (v':=V.many (.cl (1000000+t)) 1 fun k=>[s.den.ev x].getD k .dead) ⟨_,rfl,fun k hk=>?_⟩ h2⟩
 obtain rfl:k=0:=by omega
 exact Sub.refl _
end Go.Ve

