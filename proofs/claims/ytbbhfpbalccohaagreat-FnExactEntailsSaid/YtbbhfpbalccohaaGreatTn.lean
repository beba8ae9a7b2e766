/- The typed machine: the state at the head of a loop, as a relation in memory. -/
import Derived.Test.YtbbhfpbalccohaaGreatTm
namespace Go.Ve
def Xt:List Cl->List Cl->Bool
 | [],[]=>true
 | .c t d _::l,.c t' d' _::m=>decide (t'=t)&&Nat.beq d' d&&Xt l m
 |_,_=>false
def ZG:Ae->Ae->Bool
 | .arr _ t d _,.arr _ t' d' _=>decide (t'=t)&&Nat.beq d' d
 | .obj _ l,.obj _ m=>Xt l m
 |_,_=>false
def Yw:Ae->Ae
 | .arr _ t d xs=>.arr false t d xs
 | .obj _ l=>.obj false l
 | .opt _ t d x=>.opt false t d x
 | .dead=>.dead
theorem unRo_v(r:Ae):(Yw r).v=r.v/\(Yw r).len=r.len:=by cases r<;>first|exact⟨rfl,rfl⟩|exact⟨rfl,Oz⟩
theorem Lm(r:Ae):(Bu r).v=r.v/\(Bu r).len=r.len:=by cases r<;>first|exact⟨rfl,rfl⟩|exact⟨rfl,Oz⟩
theorem IW(r:Ae)(i:Nat):(Bu r).cells i=r.cells i:=by cases r<;>cases i<;>rfl
theorem Qw(c:Cl)(b b':Bool):Bu (c.node b)=Bu (c.node b'):=by
 cases c with
 |c t d x=>cases t<;>cases d<;>rfl
 |_=>rfl
theorem Xq(r:Ae):Bu (Yw r)=Bu r:=by cases r<;>rfl
theorem IV(r:Ae):Bu (Bu r)=Bu r:=by cases r<;>rfl
theorem Yp: ∀ (q:AP) (r r':Ae),Bu r=Bu r'->(r.at' q).len=(r'.at' q).len
 | [],r,r',h=>by
  show r.len=r'.len;rw [<-(Lm r).2,<-(Lm r').2,h]
 |(i,k)::q,r,r',h=>by
  show((((r.cells i).getD k .dead).node r.ro).at' q).len=((((r'.cells i).getD k .dead).node r'.ro).at' q).len;have e:r.cells i=r'.cells i:=by rw [<-IW r,<-IW r',h]
  rw [e];exact Yp q _ _ (Qw _ _ _)
theorem KC: ∀ (p p':AP) (rest:List Dy),Qx p p'=true->Uc p (dyP p'++rest)=p'/\(dyP p'++rest).drop p.length=rest
 | [],[],rest,_=>⟨rfl,rfl⟩
 |(i,k)::p,(i',k')::p',rest,h=>by
  have h:(Nat.beq k k'&&Qx p p')=true:=h;rw [bAE]at h;obtain⟨a,b⟩:=KC p p' rest h.2;have hk:=bqE h.1;subst hk;refine⟨?_,b⟩;show(Int.toNat (Int.ofNat i'),k)::Uc p (dyP p'++rest)=_;rw [a];rfl
 | [],_::_,_,h=>by cases h
 |_::_,[],_,h=>by cases h
theorem Ud: ∀ (l m:List Cl) (a:List Dy) (rest:List Dy),Xt l m=true->dyA m=some a->Js l (a++rest)=(m,rest):=by
 intro l
 induction l with
 |nil=>intro m a rest h ha;cases m with
  |nil=>cases ha;rfl
  |cons y m=>cases y<;>cases h
 |cons y l ih=>
  intro m a rest h ha;cases m with
  |nil=>cases y<;>cases h
  |cons z m=>
   cases y with
   |c t d x=>
    cases z with
    |c t' d' x'=>
     have h:(decide (t'=t)&&Nat.beq d' d&&Xt l m)=true:=h;simp only [bAE,decide_eq_true_eq]at h;obtain⟨⟨rfl,hd⟩,hl⟩:=h;have hd:=bqE hd;subst hd
     have ha:(bif t'.one then(match dyA m with
      |some m=>some ((⟨t',x'⟩:Dy)::m)
      |none=>none)else none)=some a:=ha
     cases ho:t'.one with
     |false=>rw [ho]at ha;cases ha
     |true=>
      rw [ho]at ha;simp only [cond_true]at ha;split at ha
      case h_2=>cases ha
      rename_i b hb;cases ha
      show((match(if h:t'=t' then some (h▸x')else none:Option t'.T)with
       |some x=>Cl.c t' d' x
       |none=>.dead)::(Js l (b++rest)).1,(Js l (b++rest)).2)=_
      rw [ih m b rest hl hb];simp
    |_=>cases h
   |_=>cases z<;>cases h
theorem OI{old new:Ae}{a rest:List Dy}(h:ZG old new=true)(ha:YZ new=some a):Wm old (a++rest)=(Yw new,rest):=by
 cases old with
 |arr ro t d xs=>
  cases new with
  |arr ro' t' d' xs'=>
   have h:(decide (t'=t)&&Nat.beq d' d)=true:=h;simp only [bAE,decide_eq_true_eq]at h;obtain⟨rfl,hd⟩:=h;have hd:=bqE hd;subst hd;cases ha;show((if h:t'=t' then Ae.arr false t' d' (h▸xs')else .dead),rest)=_
   simp [Yw]
  |_=>cases h
 |obj ro l=>
  cases new with
  |obj ro' m=>
   show(Ae.obj false (Js l (a++rest)).1,(Js l (a++rest)).2)=_;rw [Ud l m a rest h ha];rfl
  |_=>cases h
 |dead=>cases new<;>cases h
 |opt=>cases new<;>cases h
def Il(k:LK)(y:Sl):Sl:=match k,y with
 | .val _ false,.one c=>(match dyC c with
  |some z=>.one z.cl
  |none=>.one .dead)
 | .val _ true,.agg l=>(match dyL l with
  |some m=>.agg (m.map Dy.cl)
  |none=>.one .dead)
 | .ref id,_=>.one (.rf id [])
 | .ptr id,_=>.one (.rp id [] 0 0)
 | .pth id _,.one (.rf _ p')=>.one (.rf id p')
 |_,_=>.one .dead
theorem Ub{k:LK}{y:Sl}{a rest:List Dy}{m:List (Nat×Nat)}(h:Wc k y=some (a,m)):Wl k (a++rest)=(Il k y,rest):=by
 unfold Wc at h;split at h
 ·split at h
  case h_2=>cases h
  rename_i z hz;cases h;unfold Wl Il;simp [hz]
 ·rename_i n l
  cases hb:Nat.beq l.length n with
  |false=>rw [hb]at h;cases h
  |true=>
   rw [hb]at h;simp only [cond_true]at h;split at h
   case h_2=>cases h
   rename_i z hz;cases h
   have hlen: ∀ (l:List Cl) (z:List Dy),dyL l=some z->z.length=l.length:=by
    intro l
    induction l with
    |nil=>intro z h;cases h;rfl
    |cons y l ih=>
     intro z h;unfold dyL at h;split at h
     case h_2=>cases h
     split at h
     case h_2=>cases h
     rename_i m hm;cases h;simp [ih m hm]
   have hl:=hlen l a hz;have hn:=bqE hb;unfold Wl Il;simp only [hz];rw [List.take_append_of_le_length (by omega),List.take_of_length_le (by omega),List.drop_append_of_le_length (by omega),List.drop_eq_nil_of_le (by omega)]
   rfl
 ·cases h;rfl
 ·cases h;rfl
 ·rename_i id p id' p'
  cases hb:Qx p p' with
  |false=>rw [hb]at h;cases h
  |true=>
   rw [hb]at h;cases h;obtain⟨e1,e2⟩:=KC p p' rest hb;show(Sl.one (.rf id (Uc p (dyP p'++rest))),(dyP p'++rest).drop p.length)=(Sl.one (.rf id p'),rest);rw [e1,e2]
 ·cases h;rfl
 ·cases h
def KR(t0 t':Nat->Sl):List Nat->(Nat->Sl)->Nat->Sl
 | [],t=>t
 |d::L,t=>KR t0 t' L (A5 t d (Il (lk (t0 d)) (t' d)))
theorem KD{t0 t':Nat->Sl}: ∀ (L:List Nat) (a rest:List Dy) (m:List (Nat×Nat)) (t:Nat->Sl),Q9 t0 t' L=some (a,m)->JV t0 L (a++rest) t=(KR t0 t' L t,rest)
 | [],a,rest,m,t,h=>by cases h;rfl
 |d::L,a,rest,m,t,h=>by
  unfold Q9 at h;split at h
  case h_2=>cases h
  rename_i a1 b1 h1;split at h
  case h_2=>cases h
  rename_i a2 b2 h2;cases h;unfold JV;rw [List.append_assoc,Ub h1];exact KD L a2 rest b2 _ h2
theorem KQ{t0 t':Nat->Sl}: ∀ (L:List Nat) (t:Nat->Sl) (i:Nat),KR t0 t' L t i=if L.contains i then Il (lk (t0 i)) (t' i)else t i
 | [],t,i=>rfl
 |d::L,t,i=>by
  unfold KR;rw [KQ L];by_cases hi:L.contains i=true
  ·rw [if_pos hi,if_pos (by rw [List.contains_cons,hi,Bool.or_true])]
  ·rw [if_neg hi]
   by_cases hd:i=d
   ·subst hd
    rw [if_pos (by simp)]
    unfold A5;rw [Nat.beq_refl];rfl
   ·have:(d::L).contains i=false:=by
     rw [List.contains_cons];have:(i==d)=false:=by simpa using hd
     rw [this];simpa using hi
    rw [this,Br hd];rfl
def Bb(r':List Ae)(π:Nat->Nat):List Nat->List Ae->List Ae
 | [],r=>r
 |id::l,r=>Bb r' π l (r.set id (Yw (r'.getD (π id) .dead)))
theorem KB{r0 r':List Ae}{π:Nat->Nat}: ∀ (Rh:List Nat) (a:List Dy) (r:List Ae),Rh.all (fun i=>ZG (r0.getD i .dead) (r'.getD (π i) .dead))=true->X4 r' π Rh=some a->DY r0 Rh a r=Bb r' π Rh r
 | [],a,r,_,h=>rfl
 |id::l,a,r,hs,h=>by
  rw [List.all_cons,bAE]at hs;unfold X4 at h;split at h
  case h_2=>cases h
  rename_i a1 h1;split at h
  case h_2=>cases h
  rename_i a2 h2;cases h;unfold DY;rw [OI hs.1 h1];exact KB l a2 _ hs.2 h2
theorem KT{r':List Ae}{π:Nat->Nat}: ∀ (Rh:List Nat) (r:List Ae),(Bb r' π Rh r).length=r.length
 | [],_=>rfl
 |id::l,r=>by unfold Bb;rw [KT l,List.length_set]
theorem KU{r':List Ae}{π:Nat->Nat}: ∀ (Rh:List Nat) (r:List Ae) (i:Nat),i<r.length->(Bb r' π Rh r).getD i .dead=if Rh.contains i then Yw (r'.getD (π i) .dead)else r.getD i .dead
 | [],r,i,_=>rfl
 |id::l,r,i,hi=>by
  unfold Bb;rw [KU l _ i (by rw [List.length_set];exact hi)]
  by_cases hc:l.contains i=true
  ·rw [if_pos hc,if_pos (by rw [List.contains_cons,hc,Bool.or_true])]
  ·rw [if_neg hc]
   by_cases hd:i=id
   ·subst hd
    rw [if_pos (by simp)]
    simp only [gDE,List.getElem?_set_self hi,Option.getD_some]
   ·have:(id::l).contains i=false:=by
     rw [List.contains_cons];have:(i==id)=false:=by simpa using hd
     rw [this];simpa using hc
    rw [this];simp only [gDE,List.getElem?_set_ne (Ne.symm hd)];rfl
def Wd(m:List (Nat×Nat))(L Rh:List Nat)(s0 s':St)(keep:Nat):Bool:=
 (List.range s0.r.length).all (fun i=>Nat.blt (piF m i) s'.r.length)&&
 (List.range s0.r.length).all (fun i=>(List.range s0.r.length).all fun j=>Nat.beq i j|| !Nat.beq (piF m i) (piF m j))&&
 (List.range s0.r.length).all (fun i=>Rh.contains i||Nat.beq (piF m i) i)&&
 Rh.all (fun i=>ZG (s0.r.getD i .dead) (s'.r.getD (piF m i) .dead))&&
 m.all (fun p=>Nat.beq (piF m p.1) p.2&&Nat.blt p.1 s0.r.length)&&
 (List.range keep).all (fun i=>Nat.beq (piF m i) i)
def X5(L Rh:List Nat)(s0 s':St)(keep:Nat):Option (List Dy):=match Q9 s0.t s'.t L with
 |some (a,m)=>bif Wd m L Rh s0 s' keep then(match X4 s'.r (piF m) Rh with
  |some c=>some (a++c)
  |none=>none)else none
 |none=>none
theorem dyC_v{c:Cl}{z:Dy}{r r':List Ae}(h:dyC c=some z):c.v r=z.cl.v r':=by
 unfold dyC at h;split at h
 case h_2=>cases h
 rename_i t d x;cases hb:(t.one&& !(Cl.c t d x).own)with
 |false=>rw [hb]at h;cases h
 |true=>
  rw [hb]at h;cases h;simp only [bAE,Bool.not_eq_true']at hb
  cases t<;>cases d<;>first|rfl|(cases x with
   |none=>rfl
   |some _=>exact absurd hb.2 (by intro h;cases h))|exact nomatch hb.2|exact nomatch hb.1
theorem J9{π:Nat->Nat}{n:Nat}{r r':List Ae}{c:Cl}(h:c.stay=true):BR π n (c.v r) (c.v r'):=by
 cases c with
 |c t d x=>cases t<;>first|exact BR.tyV0 (.clo _ _) x _ (List.mem_singleton.2 rfl)|(cases x<;>first|exact BR.dead _ _ _|exact .inr (Sub.refl _))|exact ren_nr (fun _ _ _ _ h=>by cases h) (fun _ _ _ _ h=>by cases h) (fun _ _ _ h=>by cases h)
 |dead=>exact .inl rfl
 |nil=>exact .inr (Sub.refl _)
 |nilp=>exact .inr (Sub.refl _)
 |nilf=>exact .inr (Sub.refl _)
 |_=>cases h
theorem Xx{π:Nat->Nat}{n:Nat}{r r':List Ae}{y:Sl}(h:y.stay=true):BR π n (y.v r) (y.v r'):=by
 have agg: ∀l:List Cl,l.all Cl.stay=true->BR π n (Ai (l.map (Cl.v r))) (Ai (l.map (Cl.v r'))):=by
  intro l h;refine Pj (by simp) fun k hk=>?_
  rw [Aw (f:=Cl.v r) (a:=.dead) rfl,Aw (f:=Cl.v r') (a:=.dead) rfl];have hk:k<l.length:=by simpa using hk
  refine J9 (aET.1 h _ ?_);rw [gDE,gEE hk];exact List.getElem_mem _
 cases y with
 |one c=>exact J9 h
 |new l=>exact .inr (Sub.refl _)
 |agg l=>exact agg l h
 |pk t l=>
  refine YI (by simp) fun k hk=>?_
  rw [Aw (f:=Cl.v r) (a:=.dead) rfl,Aw (f:=Cl.v r') (a:=.dead) rfl];have hk:k<l.length:=by simpa using hk
  refine J9 (aET.1 h _ ?_);rw [gDE,gEE hk];exact List.getElem_mem _
 |tup l=>
  refine Vk (by simp) fun k hk=>?_
  have hk:k<l.length:=by simpa using hk
  simp only [gDE,List.getElem?_map,gEE hk,Option.map_some,Option.getD_some];have hp:=aET.1 h l[k] (List.getElem_mem hk);generalize l[k]=p at hp;obtain⟨b,m⟩:=p;cases b with
  |true=>exact agg m hp
  |false=>
   cases m with
   |nil=>exact .inl rfl
   |cons y m=>exact J9 (by simp only [List.all_cons,bAE]at hp;exact hp.1)
theorem Jo{C:Ctx}{N:Nat}{ro:Bool}{b:List Oper}{L Rh:List Nat}{s0 s':St}{keep:Nat}{cs:List Dy}{a:Act}{w:World}(h:AT C N s'.den a w)(hg:X5 L Rh s0 s' keep=some cs)(hk:C.m<=keep)(hk0:C.m<=s0.r.length)
  (ht: ∀i,L.contains i=false->Aq b i=true->(s0.t i).stay=true->s'.t i=s0.t i)
  (hr: ∀id,id<s0.r.length->Rh.contains id=false->(s'.r.getD id .dead).v=(s0.r.getD id .dead).v/\(s'.r.getD id .dead).len=(s0.r.getD id .dead).len)
  (hq: ∀id,id<s0.r.length->Rh.contains id=false->∀q:AP,((s'.r.getD id .dead).at' q).len=((s0.r.getD id .dead).at' q).len):AT C N (A2 ro b L Rh s0 cs).den a w:=by
 unfold X5 at hg;split at hg
 case h_2=>cases hg
 rename_i av m hgl;cases hok:Wd m L Rh s0 s' keep with
 |false=>rw [hok]at hg;cases hg
 |true=>
  rw [hok]at hg;simp only [cond_true]at hg;split at hg
  case h_2=>cases hg
  rename_i cv hgr;cases hg;unfold Wd at hok;simp only [bAE]at hok;obtain⟨⟨⟨⟨⟨o1,o2⟩,o3⟩,o4⟩,o5⟩,o6⟩:=hok
  let base:Nat->Sl:=fun i=>bif Aq b i&&(s0.t i).stay then s0.t i else .one .dead
  let r0:List Ae:=bif ro then s0.r.map Bu else s0.r
  have hr0l:r0.length=s0.r.length:=by cases ro<;>simp [r0]
  have hr0g: ∀i,(r0.getD i .dead).v=(s0.r.getD i .dead).v/\(r0.getD i .dead).len=(s0.r.getD i .dead).len:=by
   intro i;cases ro with
   |false=>exact⟨rfl,rfl⟩
   |true=>
    have e:r0.getD i .dead=Bu (s0.r.getD i .dead):=by
     show(s0.r.map Bu).getD i .dead=_;simp only [gDE,List.getElem?_map];cases s0.r[i]? <;>rfl
    rw [e];exact Lm _
  have hT:A2 ro b L Rh s0 (av++cv)=⟨KR s0.t s'.t L base,Bb s'.r (piF m) Rh r0⟩:=by
   show(⟨(JV s0.t L (av++cv) base).1,DY s0.r Rh (JV s0.t L (av++cv) base).2 r0⟩:St)=_;rw [KD L av cv m base hgl];simp only;rw [KB Rh cv r0 o4 hgr]
  rw [hT];have hlen:(Bb s'.r (piF m) Rh r0).length=s0.r.length:=by rw [KT,hr0l]
  have hlenv:((Bb s'.r (piF m) Rh r0).map Ae.v).length=s0.r.length:=by rw [List.length_map,hlen]
  have hget: ∀i,i<s0.r.length->(Bb s'.r (piF m) Rh r0).getD i .dead=if Rh.contains i then Yw (s'.r.getD (piF m i) .dead)else r0.getD i .dead:=fun i hi=>KU Rh r0 i (by rw [hr0l];exact hi)
  have hgv: ∀i,i<s0.r.length->((Bb s'.r (piF m) Rh r0).getD i .dead).v=(s'.r.getD (piF m i) .dead).v/\((Bb s'.r (piF m) Rh r0).getD i .dead).len=(s'.r.getD (piF m i) .dead).len:=by
   intro i hi;rw [hget i hi];cases hc:Rh.contains i with
   |true=>simp only [if_true];exact unRo_v _
   |false=>
    simp only [Bool.false_eq_true,if_false];have:=aET.1 o3 i (List.mem_range.2 hi);rw [hc,Bool.false_or]at this;rw [bqE this,(hr0g i).1,(hr0g i).2,(hr i hi hc).1,(hr i hi hc).2];exact⟨rfl,rfl⟩
  have hgq: ∀i,i<s0.r.length->∀q:AP,(((Bb s'.r (piF m) Rh r0).getD i .dead).at' q).len=((s'.r.getD (piF m i) .dead).at' q).len:=by
   intro i hi q;rw [hget i hi];cases hc:Rh.contains i with
   |true=>simp only [if_true];exact Yp q _ _ (Xq _)
   |false=>
    simp only [Bool.false_eq_true,if_false];have:=aET.1 o3 i (List.mem_range.2 hi);rw [hc,Bool.false_or]at this;rw [bqE this,hq i hi hc q];refine Yp q _ _ ?_;cases ro with
    |false=>rfl
    |true=>
     have e:r0.getD i .dead=Bu (s0.r.getD i .dead):=by
      show(s0.r.map Bu).getD i .dead=_;simp only [gDE,List.getElem?_map];cases s0.r[i]? <;>rfl
     rw [e];exact IV _
  refine h.perm (π:=piF m) (fun i hi=>?_) (fun i j hi hj he=>?_) (fun i hi=>?_) (fun i hi=>?_) ?_ fun i=>?_
  ·have hi:i<s0.r.length:=by rw [<-hlenv];exact hi
   show _<(s'.r.map Ae.v).length;rw [List.length_map];exact blE (aET.1 o1 i (List.mem_range.2 hi))
  ·have hi:i<s0.r.length:=by rw [<-hlenv];exact hi
   have hj:j<s0.r.length:=by rw [<-hlenv];exact hj
   have:=aET.1 (aET.1 o2 i (List.mem_range.2 hi)) j (List.mem_range.2 hj);rw [he,Nat.beq_refl,Bool.or_eq_true]at this;rcases this with h|h
   ·exact bqE h
   ·cases h
  ·have hi:i<s0.r.length:=by rw [<-hlenv];exact hi
   show Sub ((s'.r.map Ae.v).getD (piF m i) .dead) (((Bb s'.r (piF m) Rh r0).map Ae.v).getD i .dead);rw [AK,AK,(hgv i hi).1];exact Sub.refl _
  ·exact bqE (aET.1 o6 i (List.mem_range.2 (Nat.lt_of_lt_of_le hi hk)))
  ·show C.m<=((Bb s'.r (piF m) Rh r0).map Ae.v).length
   rw [hlenv];exact hk0
  ·show BR (piF m) ((Bb s'.r (piF m) Rh r0).map Ae.v).length ((s'.t i).v s'.r) ((KR s0.t s'.t L base i).v (Bb s'.r (piF m) Rh r0))
   rw [KQ,hlenv];cases hc:L.contains i with
   |false=>
    simp only [Bool.false_eq_true,if_false];show BR _ _ _ ((bif Aq b i&&(s0.t i).stay then s0.t i else .one .dead:Sl).v _);cases hb:(Aq b i&&(s0.t i).stay)with
    |false=>exact BR.dead _ _ _
    |true=>
     rw [bAE]at hb;rw [ht i hc hb.1 hb.2];exact Xx hb.2
   |true=>
    simp only [if_true]
    -- the slot's own part of what was grabbed
    have hpart: ∀ (L:List Nat) (av:List Dy) (m0:List (Nat×Nat)),Q9 s0.t s'.t L=some (av,m0)->L.contains i=true->∃a1 m1,Wc (lk (s0.t i)) (s'.t i)=some (a1,m1)/\∀p∈m1,p∈m0:=by
     intro L
     induction L with
     |nil=>intro av m0 _ h;cases h
     |cons d L ih=>
      intro av m0 hgl hc;unfold Q9 at hgl;split at hgl
      case h_2=>cases hgl
      rename_i a1 b1 h1;split at hgl
      case h_2=>cases hgl
      rename_i a2 b2 h2;cases hgl;by_cases hd:i=d
      ·subst hd
       exact⟨a1,b1,h1,fun p hp=>List.mem_append_left _ hp⟩
      ·have:L.contains i=true:=by
        rw [List.contains_cons]at hc;have hne:(i==d)=false:=by simpa using hd
        rw [hne,Bool.false_or]at hc;exact hc
       obtain⟨a3,m3,h3,h4⟩:=ih a2 b2 h2 this;exact⟨a3,m3,h3,fun p hp=>List.mem_append_right _ (h4 p hp)⟩
    obtain⟨a1,m1,h1,hm1⟩:=hpart L av m hgl hc;generalize lk (s0.t i)=k at h1;generalize s'.t i=y at h1;unfold Wc at h1;split at h1
    ·rename_i c
     split at h1
     case h_2=>cases h1
     rename_i z hz;unfold Il;simp only [hz];have e:=dyC_v (r:=s'.r) (r':=Bb s'.r (piF m) Rh r0) hz;show BR _ _ (c.v s'.r) (z.cl.v (Bb s'.r (piF m) Rh r0));rw [e];exact J9 (r:=Bb s'.r (piF m) Rh r0) (r':=Bb s'.r (piF m) Rh r0) (c:=z.cl) rfl
    ·rename_i n l
     cases hb:Nat.beq l.length n with
     |false=>rw [hb]at h1;cases h1
     |true=>
      rw [hb]at h1;simp only [cond_true]at h1;split at h1
      case h_2=>cases h1
      rename_i z hz;unfold Il;simp only [hz]
      have key: ∀ (l:List Cl) (z:List Dy),dyL l=some z->l.map (Cl.v s'.r)=(z.map Dy.cl).map (Cl.v (Bb s'.r (piF m) Rh r0)):=by
       intro l
       induction l with
       |nil=>intro z h;cases h;rfl
       |cons y l ih=>
        intro z h;unfold dyL at h;split at h
        case h_2=>cases h
        rename_i z1 hz1;split at h
        case h_2=>cases h
        rename_i z2 hz2;cases h;simp only [List.map_cons];rw [dyC_v hz1,ih z2 hz2]
      show BR _ _ (Ai (l.map (Cl.v s'.r))) (Ai ((z.map Dy.cl).map (Cl.v (Bb s'.r (piF m) Rh r0))));rw [key l z hz];refine Pj rfl fun k hk=>?_
      rw [Aw (f:=Cl.v (Bb s'.r (piF m) Rh r0)) (a:=.dead) rfl];cases hx:(z.map Dy.cl)[k]? with
      |none=>simp only [gDE,hx];exact .inl rfl
      |some x=>
       simp only [gDE,hx,Option.getD_some];obtain⟨u,_,hu⟩:=List.mem_map.1 (List.mem_of_getElem? hx);rw [<-hu];exact J9 (c:=u.cl) rfl
    ·rename_i id id'
     cases h1;have hp:=aET.1 o5 (id,id') (hm1 _ (List.mem_singleton.2 rfl));rw [bAE]at hp;have hpi:piF m id=id':=bqE hp.1;have hid:id<s0.r.length:=blE hp.2;refine .inr ⟨id,hid,hpi,?_⟩;show V.rs id [] 0 ((Bb s'.r (piF m) Rh r0).getD id .dead).len=V.rs id [] 0 (s'.r.getD id' .dead).len;rw [(hgv id hid).2,hpi]
    ·rename_i id id'
     cases h1;have hp:=aET.1 o5 (id,id') (hm1 _ (List.mem_singleton.2 rfl));rw [bAE]at hp;have hpi:piF m id=id':=bqE hp.1;have hid:id<s0.r.length:=blE hp.2;exact .inr ⟨id,hid,hpi,rfl⟩
    ·rename_i id p id' p'
     cases hb:Qx p p' with
     |false=>rw [hb]at h1;cases h1
     |true=>
      rw [hb]at h1;cases h1;have hp:=aET.1 o5 (id,id') (hm1 _ (List.mem_singleton.2 rfl));rw [bAE]at hp;have hpi:piF m id=id':=bqE hp.1;have hid:id<s0.r.length:=blE hp.2;refine .inr ⟨id,hid,hpi,?_⟩;show V.rs id p' 0 (((Bb s'.r (piF m) Rh r0).getD id .dead).at' p').len=V.rs id p' 0 ((s'.r.getD id' .dead).at' p').len;rw [hgq id hid p',hpi]
    ·unfold Il
     exact BR.dead _ _ _
    ·cases h1
end Go.Ve

