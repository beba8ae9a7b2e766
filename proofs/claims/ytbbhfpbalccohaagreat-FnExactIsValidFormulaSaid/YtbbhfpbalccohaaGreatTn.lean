/- The typed machine: the state at the head of a loop, as a relation in memory. -/
import Derived.Test.YtbbhfpbalccohaaGreatTm
namespace Go.Ve
def Xe:List Cl->List Cl->Bool
 | [],[]=>true
 | .c t d _::l,.c t' d' _::m=>decide (t'=t)&&Nat.beq d' d&&Xe l m
 |_,_=>false
def Zm:Ah->Ah->Bool
 | .arr _ t d _,.arr _ t' d' _=>decide (t'=t)&&Nat.beq d' d
 | .obj _ l,.obj _ m=>Xe l m
 |_,_=>false
def Yf:Ah->Ah
 | .arr _ t d xs=>.arr false t d xs
 | .obj _ l=>.obj false l
 | .opt _ t d x=>.opt false t d x
 | .dead=>.dead
theorem unRo_v(r:Ah):(Yf r).v=r.v/\(Yf r).len=r.len:=by cases r<;>first|exact⟨rfl,rfl⟩|exact⟨rfl,Oq⟩
theorem Ld(r:Ah):(Bz r).v=r.v/\(Bz r).len=r.len:=by cases r<;>first|exact⟨rfl,rfl⟩|exact⟨rfl,Oq⟩
theorem IW(r:Ah)(i:Nat):(Bz r).cells i=r.cells i:=by cases r<;>cases i<;>rfl
theorem Qp(c:Cl)(b b':Bool):Bz (c.node b)=Bz (c.node b'):=by
 cases c with
 |c t d x=>cases t<;>cases d<;>rfl
 |_=>rfl
theorem Xb(r:Ah):Bz (Yf r)=Bz r:=by cases r<;>rfl
theorem IV(r:Ah):Bz (Bz r)=Bz r:=by cases r<;>rfl
theorem X8: ∀ (q:AU) (r r':Ah),Bz r=Bz r'->(r.at' q).len=(r'.at' q).len
 | [],r,r',h=>by
  show r.len=r'.len;rw [<-(Ld r).2,<-(Ld r').2,h]
 |(i,k)::q,r,r',h=>by
  show((((r.cells i).getD k .dead).node r.ro).at' q).len=((((r'.cells i).getD k .dead).node r'.ro).at' q).len;have e:r.cells i=r'.cells i:=by rw [<-IW r,<-IW r',h]
  rw [e];exact X8 q _ _ (Qp _ _ _)
theorem Kw: ∀ (p p':AU) (rest:List Dy),Qq p p'=true->Q5 p (dyP p'++rest)=p'/\(dyP p'++rest).drop p.length=rest
 | [],[],rest,_=>⟨rfl,rfl⟩
 |(i,k)::p,(i',k')::p',rest,h=>by
  have h:(Nat.beq k k'&&Qq p p')=true:=h;rw [bAE]at h;obtain⟨a,b⟩:=Kw p p' rest h.2;have hk:=Nat.eq_of_beq_eq_true h.1;subst hk;refine⟨?_,b⟩;show(Int.toNat (Int.ofNat i'),k)::Q5 p (dyP p'++rest)=_;rw [a];rfl
 | [],_::_,_,h=>by cases h
 |_::_,[],_,h=>by cases h
theorem Q6: ∀ (l m:List Cl) (a:List Dy) (rest:List Dy),Xe l m=true->dyA m=some a->Jp l (a++rest)=(m,rest):=by
 intro l
 induction l with
 |nil=>intro m a rest h ha;cases m with
  |nil=>cases ha;rfl
  |cons y m=>cases y<;>cases h
 |cons y l ih=>
  intro m a rest h ha;cases m with
  |nil=>cases y<;>cases h
  |cons z m=>
   cases y with
   |c t d x=>
    cases z with
    |c t' d' x'=>
     have h:(decide (t'=t)&&Nat.beq d' d&&Xe l m)=true:=h;simp only [bAE,decide_eq_true_eq]at h;obtain⟨⟨rfl,hd⟩,hl⟩:=h;have hd:=Nat.eq_of_beq_eq_true hd;subst hd
     have ha:(bif t'.one then(match dyA m with
      |some m=>some ((⟨t',x'⟩:Dy)::m)
      |none=>none)else none)=some a:=ha
     cases ho:t'.one with
     |false=>rw [ho]at ha;cases ha
     |true=>
      rw [ho]at ha;simp only [cond_true]at ha;split at ha
      case h_2=>cases ha
      rename_i b hb;cases ha
      show((match(if h:t'=t' then some (h▸x')else none:Option t'.T)with
       |some x=>Cl.c t' d' x
       |none=>.dead)::(Jp l (b++rest)).1,(Jp l (b++rest)).2)=_
      rw [ih m b rest hl hb];simp
    |_=>cases h
   |_=>cases z<;>cases h
theorem OB{old new:Ah}{a rest:List Dy}(h:Zm old new=true)(ha:YG new=some a):V9 old (a++rest)=(Yf new,rest):=by
 cases old with
 |arr ro t d xs=>
  cases new with
  |arr ro' t' d' xs'=>
   have h:(decide (t'=t)&&Nat.beq d' d)=true:=h;simp only [bAE,decide_eq_true_eq]at h;obtain⟨rfl,hd⟩:=h;have hd:=Nat.eq_of_beq_eq_true hd;subst hd;cases ha;show((if h:t'=t' then Ah.arr false t' d' (h▸xs')else .dead),rest)=_
   simp [Yf]
  |_=>cases h
 |obj ro l=>
  cases new with
  |obj ro' m=>
   show(Ah.obj false (Jp l (a++rest)).1,(Jp l (a++rest)).2)=_;rw [Q6 l m a rest h ha];rfl
  |_=>cases h
 |dead=>cases new<;>cases h
 |opt=>cases new<;>cases h
def Il(k:LK)(y:Sl):Sl:=match k,y with
 | .val _ false,.one c=>(match dyC c with
  |some z=>.one z.cl
  |none=>.one .dead)
 | .val _ true,.agg l=>(match dyL l with
  |some m=>.agg (m.map Dy.cl)
  |none=>.one .dead)
 | .ref id,_=>.one (.rf id [])
 | .ptr id,_=>.one (.rp id [] 0 0)
 | .pth id _,.one (.rf _ p')=>.one (.rf id p')
 |_,_=>.one .dead
theorem Q4{k:LK}{y:Sl}{a rest:List Dy}{m:List (Nat×Nat)}(h:VY k y=some (a,m)):V8 k (a++rest)=(Il k y,rest):=by
 unfold VY at h;split at h
 ·split at h
  case h_2=>cases h
  rename_i z hz;cases h;unfold V8 Il;simp [hz]
 ·rename_i n l
  cases hb:Nat.beq l.length n with
  |false=>rw [hb]at h;cases h
  |true=>
   rw [hb]at h;simp only [cond_true]at h;split at h
   case h_2=>cases h
   rename_i z hz;cases h
   have hlen: ∀ (l:List Cl) (z:List Dy),dyL l=some z->z.length=l.length:=by
    intro l
    induction l with
    |nil=>intro z h;cases h;rfl
    |cons y l ih=>
     intro z h;unfold dyL at h;split at h
     case h_2=>cases h
     split at h
     case h_2=>cases h
     rename_i m hm;cases h;simp [ih m hm]
   have hl:=hlen l a hz;have hn:=Nat.eq_of_beq_eq_true hb;unfold V8 Il;simp only [hz];rw [List.take_append_of_le_length (by omega),List.take_of_length_le (by omega),List.drop_append_of_le_length (by omega),List.drop_eq_nil_of_le (by omega)]
   rfl
 ·cases h;rfl
 ·cases h;rfl
 ·rename_i id p id' p'
  cases hb:Qq p p' with
  |false=>rw [hb]at h;cases h
  |true=>
   rw [hb]at h;cases h;obtain⟨e1,e2⟩:=Kw p p' rest hb;show(Sl.one (.rf id (Q5 p (dyP p'++rest))),(dyP p'++rest).drop p.length)=(Sl.one (.rf id p'),rest);rw [e1,e2]
 ·cases h;rfl
 ·cases h
def KG(t0 t':Nat->Sl):List Nat->(Nat->Sl)->Nat->Sl
 | [],t=>t
 |d::L,t=>KG t0 t' L (Ba t d (Il (lk (t0 d)) (t' d)))
theorem Kx{t0 t':Nat->Sl}: ∀ (L:List Nat) (a rest:List Dy) (m:List (Nat×Nat)) (t:Nat->Sl),Q2 t0 t' L=some (a,m)->JQ t0 L (a++rest) t=(KG t0 t' L t,rest)
 | [],a,rest,m,t,h=>by cases h;rfl
 |d::L,a,rest,m,t,h=>by
  unfold Q2 at h;split at h
  case h_2=>cases h
  rename_i a1 b1 h1;split at h
  case h_2=>cases h
  rename_i a2 b2 h2;cases h;unfold JQ;rw [List.append_assoc,Q4 h1];exact Kx L a2 rest b2 _ h2
theorem KF{t0 t':Nat->Sl}: ∀ (L:List Nat) (t:Nat->Sl) (i:Nat),KG t0 t' L t i=if L.contains i then Il (lk (t0 i)) (t' i)else t i
 | [],t,i=>rfl
 |d::L,t,i=>by
  unfold KG;rw [KF L];by_cases hi:L.contains i=true
  ·rw [if_pos hi,if_pos (by rw [List.contains_cons,hi,Bool.or_true])]
  ·rw [if_neg hi]
   by_cases hd:i=d
   ·subst hd
    rw [if_pos (by simp)]
    unfold Ba;rw [Nat.beq_refl];rfl
   ·have:(d::L).contains i=false:=by
     rw [List.contains_cons];have:(i==d)=false:=by simpa using hd
     rw [this];simpa using hi
    rw [this,Bw hd];rfl
def Bf(r':List Ah)(π:Nat->Nat):List Nat->List Ah->List Ah
 | [],r=>r
 |id::l,r=>Bf r' π l (r.set id (Yf (r'.getD (π id) .dead)))
theorem Kv{r0 r':List Ah}{π:Nat->Nat}: ∀ (Rh:List Nat) (a:List Dy) (r:List Ah),Rh.all (fun i=>Zm (r0.getD i .dead) (r'.getD (π i) .dead))=true->XQ r' π Rh=some a->DZ r0 Rh a r=Bf r' π Rh r
 | [],a,r,_,h=>rfl
 |id::l,a,r,hs,h=>by
  rw [List.all_cons,bAE]at hs;unfold XQ at h;split at h
  case h_2=>cases h
  rename_i a1 h1;split at h
  case h_2=>cases h
  rename_i a2 h2;cases h;unfold DZ;rw [OB hs.1 h1];exact Kv l a2 _ hs.2 h2
theorem KH{r':List Ah}{π:Nat->Nat}: ∀ (Rh:List Nat) (r:List Ah),(Bf r' π Rh r).length=r.length
 | [],_=>rfl
 |id::l,r=>by unfold Bf;rw [KH l,List.length_set]
theorem KJ{r':List Ah}{π:Nat->Nat}: ∀ (Rh:List Nat) (r:List Ah) (i:Nat),i<r.length->(Bf r' π Rh r).getD i .dead=if Rh.contains i then Yf (r'.getD (π i) .dead)else r.getD i .dead
 | [],r,i,_=>rfl
 |id::l,r,i,hi=>by
  unfold Bf;rw [KJ l _ i (by rw [List.length_set];exact hi)]
  by_cases hc:l.contains i=true
  ·rw [if_pos hc,if_pos (by rw [List.contains_cons,hc,Bool.or_true])]
  ·rw [if_neg hc]
   by_cases hd:i=id
   ·subst hd
    rw [if_pos (by simp)]
    simp only [gDE,List.getElem?_set_self hi,Option.getD_some]
   ·have:(id::l).contains i=false:=by
     rw [List.contains_cons];have:(i==id)=false:=by simpa using hd
     rw [this];simpa using hc
    rw [this];simp only [gDE,List.getElem?_set_ne (Ne.symm hd)];rfl
def VZ(m:List (Nat×Nat))(L Rh:List Nat)(s0 s':St)(keep:Nat):Bool:=
 (List.range s0.r.length).all (fun i=>Nat.blt (piF m i) s'.r.length)&&
 (List.range s0.r.length).all (fun i=>(List.range s0.r.length).all fun j=>Nat.beq i j|| !Nat.beq (piF m i) (piF m j))&&
 (List.range s0.r.length).all (fun i=>Rh.contains i||Nat.beq (piF m i) i)&&
 Rh.all (fun i=>Zm (s0.r.getD i .dead) (s'.r.getD (piF m i) .dead))&&
 m.all (fun p=>Nat.beq (piF m p.1) p.2&&Nat.blt p.1 s0.r.length)&&
 (List.range keep).all (fun i=>Nat.beq (piF m i) i)
def XR(L Rh:List Nat)(s0 s':St)(keep:Nat):Option (List Dy):=match Q2 s0.t s'.t L with
 |some (a,m)=>bif VZ m L Rh s0 s' keep then(match XQ s'.r (piF m) Rh with
  |some c=>some (a++c)
  |none=>none)else none
 |none=>none
theorem dyC_v{c:Cl}{z:Dy}{r r':List Ah}(h:dyC c=some z):c.v r=z.cl.v r':=by
 unfold dyC at h;split at h
 case h_2=>cases h
 rename_i t d x;cases hb:(t.one&& !(Cl.c t d x).own)with
 |false=>rw [hb]at h;cases h
 |true=>
  rw [hb]at h;cases h;simp only [bAE,Bool.not_eq_true']at hb
  cases t<;>cases d<;>first|rfl|(cases x with
   |none=>rfl
   |some _=>exact absurd hb.2 (by intro h;cases h))|exact nomatch hb.2|exact nomatch hb.1
theorem J4{π:Nat->Nat}{n:Nat}{r r':List Ah}{c:Cl}(h:c.stay=true):BT π n (c.v r) (c.v r'):=by
 cases c with
 |c t d x=>cases t<;>first|exact BT.tyV0 (.clo _ _) x _ (List.mem_singleton.2 rfl)|(cases x<;>first|exact BT.dead _ _ _|exact .inr (Sub.refl _))|exact ren_nr (fun _ _ _ _ h=>by cases h) (fun _ _ _ _ h=>by cases h) (fun _ _ _ h=>by cases h)
 |dead=>exact .inl rfl
 |nil=>exact .inr (Sub.refl _)
 |nilp=>exact .inr (Sub.refl _)
 |nilf=>exact .inr (Sub.refl _)
 |_=>cases h
theorem Xh{π:Nat->Nat}{n:Nat}{r r':List Ah}{y:Sl}(h:y.stay=true):BT π n (y.v r) (y.v r'):=by
 have agg: ∀l:List Cl,l.all Cl.stay=true->BT π n (Al (l.map (Cl.v r))) (Al (l.map (Cl.v r'))):=by
  intro l h;refine Pa (by simp) fun k hk=>?_
  rw [AC (f:=Cl.v r) (a:=.dead) rfl,AC (f:=Cl.v r') (a:=.dead) rfl];have hk:k<l.length:=by simpa using hk
  refine J4 (aET.1 h _ ?_);rw [gDE,gEE hk];exact List.getElem_mem _
 cases y with
 |one c=>exact J4 h
 |new l=>exact .inr (Sub.refl _)
 |agg l=>exact agg l h
 |pk t l=>
  refine Yr (by simp) fun k hk=>?_
  rw [AC (f:=Cl.v r) (a:=.dead) rfl,AC (f:=Cl.v r') (a:=.dead) rfl];have hk:k<l.length:=by simpa using hk
  refine J4 (aET.1 h _ ?_);rw [gDE,gEE hk];exact List.getElem_mem _
 |tup l=>
  refine Va (by simp) fun k hk=>?_
  have hk:k<l.length:=by simpa using hk
  simp only [gDE,List.getElem?_map,gEE hk,Option.map_some,Option.getD_some];have hp:=aET.1 h l[k] (List.getElem_mem hk);generalize l[k]=p at hp;obtain⟨b,m⟩:=p;cases b with
  |true=>exact agg m hp
  |false=>
   cases m with
   |nil=>exact .inl rfl
   |cons y m=>exact J4 (by simp only [List.all_cons,bAE]at hp;exact hp.1)
theorem Jn{C:Ctx}{N:Nat}{ro:Bool}{b:List Oper}{L Rh:List Nat}{s0 s':St}{keep:Nat}{cs:List Dy}{a:Act}{w:World}(h:AY C N s'.den a w)(hg:XR L Rh s0 s' keep=some cs)(hk:C.m<=keep)(hk0:C.m<=s0.r.length)
  (ht: ∀i,L.contains i=false->Ax b i=true->(s0.t i).stay=true->s'.t i=s0.t i)
  (hr: ∀id,id<s0.r.length->Rh.contains id=false->(s'.r.getD id .dead).v=(s0.r.getD id .dead).v/\(s'.r.getD id .dead).len=(s0.r.getD id .dead).len)
  (hq: ∀id,id<s0.r.length->Rh.contains id=false->∀q:AU,((s'.r.getD id .dead).at' q).len=((s0.r.getD id .dead).at' q).len):AY C N (A7 ro b L Rh s0 cs).den a w:=by
 unfold XR at hg;split at hg
 case h_2=>cases hg
 rename_i av m hgl;cases hok:VZ m L Rh s0 s' keep with
 |false=>rw [hok]at hg;cases hg
 |true=>
  rw [hok]at hg;simp only [cond_true]at hg;split at hg
  case h_2=>cases hg
  rename_i cv hgr;cases hg;unfold VZ at hok;simp only [bAE]at hok;obtain⟨⟨⟨⟨⟨o1,o2⟩,o3⟩,o4⟩,o5⟩,o6⟩:=hok
  let base:Nat->Sl:=fun i=>bif Ax b i&&(s0.t i).stay then s0.t i else .one .dead
  let r0:List Ah:=bif ro then s0.r.map Bz else s0.r
  have hr0l:r0.length=s0.r.length:=by cases ro<;>simp [r0]
  have hr0g: ∀i,(r0.getD i .dead).v=(s0.r.getD i .dead).v/\(r0.getD i .dead).len=(s0.r.getD i .dead).len:=by
   intro i;cases ro with
   |false=>exact⟨rfl,rfl⟩
   |true=>
    have e:r0.getD i .dead=Bz (s0.r.getD i .dead):=by
     show(s0.r.map Bz).getD i .dead=_;simp only [gDE,List.getElem?_map];cases s0.r[i]? <;>rfl
    rw [e];exact Ld _
  have hT:A7 ro b L Rh s0 (av++cv)=⟨KG s0.t s'.t L base,Bf s'.r (piF m) Rh r0⟩:=by
   show(⟨(JQ s0.t L (av++cv) base).1,DZ s0.r Rh (JQ s0.t L (av++cv) base).2 r0⟩:St)=_;rw [Kx L av cv m base hgl];simp only;rw [Kv Rh cv r0 o4 hgr]
  rw [hT];have hlen:(Bf s'.r (piF m) Rh r0).length=s0.r.length:=by rw [KH,hr0l]
  have hlenv:((Bf s'.r (piF m) Rh r0).map Ah.v).length=s0.r.length:=by rw [List.length_map,hlen]
  have hget: ∀i,i<s0.r.length->(Bf s'.r (piF m) Rh r0).getD i .dead=if Rh.contains i then Yf (s'.r.getD (piF m i) .dead)else r0.getD i .dead:=fun i hi=>KJ Rh r0 i (by rw [hr0l];exact hi)
  have hgv: ∀i,i<s0.r.length->((Bf s'.r (piF m) Rh r0).getD i .dead).v=(s'.r.getD (piF m i) .dead).v/\((Bf s'.r (piF m) Rh r0).getD i .dead).len=(s'.r.getD (piF m i) .dead).len:=by
   intro i hi;rw [hget i hi];cases hc:Rh.contains i with
   |true=>simp only [if_true];exact unRo_v _
   |false=>
    simp only [Bool.false_eq_true,if_false];have:=aET.1 o3 i (List.mem_range.2 hi);rw [hc,Bool.false_or]at this;rw [Nat.eq_of_beq_eq_true this,(hr0g i).1,(hr0g i).2,(hr i hi hc).1,(hr i hi hc).2];exact⟨rfl,rfl⟩
  have hgq: ∀i,i<s0.r.length->∀q:AU,(((Bf s'.r (piF m) Rh r0).getD i .dead).at' q).len=((s'.r.getD (piF m i) .dead).at' q).len:=by
   intro i hi q;rw [hget i hi];cases hc:Rh.contains i with
   |true=>simp only [if_true];exact X8 q _ _ (Xb _)
   |false=>
    simp only [Bool.false_eq_true,if_false];have:=aET.1 o3 i (List.mem_range.2 hi);rw [hc,Bool.false_or]at this;rw [Nat.eq_of_beq_eq_true this,hq i hi hc q];refine X8 q _ _ ?_;cases ro with
    |false=>rfl
    |true=>
     have e:r0.getD i .dead=Bz (s0.r.getD i .dead):=by
      show(s0.r.map Bz).getD i .dead=_;simp only [gDE,List.getElem?_map];cases s0.r[i]? <;>rfl
     rw [e];exact IV _
  refine h.perm (π:=piF m) (fun i hi=>?_) (fun i j hi hj he=>?_) (fun i hi=>?_) (fun i hi=>?_) ?_ fun i=>?_
  ·have hi:i<s0.r.length:=by rw [<-hlenv];exact hi
   show _<(s'.r.map Ah.v).length;rw [List.length_map];exact Nat.le_of_ble_eq_true (aET.1 o1 i (List.mem_range.2 hi))
  ·have hi:i<s0.r.length:=by rw [<-hlenv];exact hi
   have hj:j<s0.r.length:=by rw [<-hlenv];exact hj
   have:=aET.1 (aET.1 o2 i (List.mem_range.2 hi)) j (List.mem_range.2 hj);rw [he,Nat.beq_refl,Bool.or_eq_true]at this;rcases this with h|h
   ·exact Nat.eq_of_beq_eq_true h
   ·cases h
  ·have hi:i<s0.r.length:=by rw [<-hlenv];exact hi
   show Sub ((s'.r.map Ah.v).getD (piF m i) .dead) (((Bf s'.r (piF m) Rh r0).map Ah.v).getD i .dead);rw [AQ,AQ,(hgv i hi).1];exact Sub.refl _
  ·exact Nat.eq_of_beq_eq_true (aET.1 o6 i (List.mem_range.2 (Nat.lt_of_lt_of_le hi hk)))
  ·show C.m<=((Bf s'.r (piF m) Rh r0).map Ah.v).length
   rw [hlenv];exact hk0
  ·show BT (piF m) ((Bf s'.r (piF m) Rh r0).map Ah.v).length ((s'.t i).v s'.r) ((KG s0.t s'.t L base i).v (Bf s'.r (piF m) Rh r0))
   rw [KF,hlenv];cases hc:L.contains i with
   |false=>
    simp only [Bool.false_eq_true,if_false];show BT _ _ _ ((bif Ax b i&&(s0.t i).stay then s0.t i else .one .dead:Sl).v _);cases hb:(Ax b i&&(s0.t i).stay)with
    |false=>exact BT.dead _ _ _
    |true=>
     rw [bAE]at hb;rw [ht i hc hb.1 hb.2];exact Xh hb.2
   |true=>
    simp only [if_true]
    -- the slot's own part of what was grabbed
    have hpart: ∀ (L:List Nat) (av:List Dy) (m0:List (Nat×Nat)),Q2 s0.t s'.t L=some (av,m0)->L.contains i=true->∃a1 m1,VY (lk (s0.t i)) (s'.t i)=some (a1,m1)/\∀p∈m1,p∈m0:=by
     intro L
     induction L with
     |nil=>intro av m0 _ h;cases h
     |cons d L ih=>
      intro av m0 hgl hc;unfold Q2 at hgl;split at hgl
      case h_2=>cases hgl
      rename_i a1 b1 h1;split at hgl
      case h_2=>cases hgl
      rename_i a2 b2 h2;cases hgl;by_cases hd:i=d
      ·subst hd
       exact⟨a1,b1,h1,fun p hp=>List.mem_append_left _ hp⟩
      ·have:L.contains i=true:=by
        rw [List.contains_cons]at hc;have hne:(i==d)=false:=by simpa using hd
        rw [hne,Bool.false_or]at hc;exact hc
       obtain⟨a3,m3,h3,h4⟩:=ih a2 b2 h2 this;exact⟨a3,m3,h3,fun p hp=>List.mem_append_right _ (h4 p hp)⟩
    obtain⟨a1,m1,h1,hm1⟩:=hpart L av m hgl hc;generalize lk (s0.t i)=k at h1;generalize s'.t i=y at h1;unfold VY at h1;split at h1
    ·rename_i c
     split at h1
     case h_2=>cases h1
     rename_i z hz;unfold Il;simp only [hz];have e:=dyC_v (r:=s'.r) (r':=Bf s'.r (piF m) Rh r0) hz;show BT _ _ (c.v s'.r) (z.cl.v (Bf s'.r (piF m) Rh r0));rw [e];exact J4 (r:=Bf s'.r (piF m) Rh r0) (r':=Bf s'.r (piF m) Rh r0) (c:=z.cl) rfl
    ·rename_i n l
     cases hb:Nat.beq l.length n with
     |false=>rw [hb]at h1;cases h1
     |true=>
      rw [hb]at h1;simp only [cond_true]at h1;split at h1
      case h_2=>cases h1
      rename_i z hz;unfold Il;simp only [hz]
      have key: ∀ (l:List Cl) (z:List Dy),dyL l=some z->l.map (Cl.v s'.r)=(z.map Dy.cl).map (Cl.v (Bf s'.r (piF m) Rh r0)):=by
       intro l
       induction l with
       |nil=>intro z h;cases h;rfl
       |cons y l ih=>
        intro z h;unfold dyL at h;split at h
        case h_2=>cases h
        rename_i z1 hz1;split at h
        case h_2=>cases h
        rename_i z2 hz2;cases h;simp only [List.map_cons];rw [dyC_v hz1,ih z2 hz2]
      show BT _ _ (Al (l.map (Cl.v s'.r))) (Al ((z.map Dy.cl).map (Cl.v (Bf s'.r (piF m) Rh r0))));rw [key l z hz];refine Pa rfl fun k hk=>?_
      rw [AC (f:=Cl.v (Bf s'.r (piF m) Rh r0)) (a:=.dead) rfl];cases hx:(z.map Dy.cl)[k]? with
      |none=>simp only [gDE,hx];exact .inl rfl
      |some x=>
       simp only [gDE,hx,Option.getD_some];obtain⟨u,_,hu⟩:=List.mem_map.1 (List.mem_of_getElem? hx);rw [<-hu];exact J4 (c:=u.cl) rfl
    ·rename_i id id'
     cases h1;have hp:=aET.1 o5 (id,id') (hm1 _ (List.mem_singleton.2 rfl));rw [bAE]at hp;have hpi:piF m id=id':=Nat.eq_of_beq_eq_true hp.1;have hid:id<s0.r.length:=Nat.le_of_ble_eq_true hp.2;refine .inr ⟨id,hid,hpi,?_⟩;show V.rs id [] 0 ((Bf s'.r (piF m) Rh r0).getD id .dead).len=V.rs id [] 0 (s'.r.getD id' .dead).len;rw [(hgv id hid).2,hpi]
    ·rename_i id id'
     cases h1;have hp:=aET.1 o5 (id,id') (hm1 _ (List.mem_singleton.2 rfl));rw [bAE]at hp;have hpi:piF m id=id':=Nat.eq_of_beq_eq_true hp.1;have hid:id<s0.r.length:=Nat.le_of_ble_eq_true hp.2;exact .inr ⟨id,hid,hpi,rfl⟩
    ·rename_i id p id' p'
     cases hb:Qq p p' with
     |false=>rw [hb]at h1;cases h1
     |true=>
      rw [hb]at h1;cases h1;have hp:=aET.1 o5 (id,id') (hm1 _ (List.mem_singleton.2 rfl));rw [bAE]at hp;have hpi:piF m id=id':=Nat.eq_of_beq_eq_true hp.1;have hid:id<s0.r.length:=Nat.le_of_ble_eq_true hp.2;refine .inr ⟨id,hid,hpi,?_⟩;show V.rs id p' 0 (((Bf s'.r (piF m) Rh r0).getD id .dead).at' p').len=V.rs id p' 0 ((s'.r.getD id' .dead).at' p').len;rw [hgq id hid p',hpi]
    ·unfold Il
     exact BT.dead _ _ _
    ·cases h1
end Go.Ve

