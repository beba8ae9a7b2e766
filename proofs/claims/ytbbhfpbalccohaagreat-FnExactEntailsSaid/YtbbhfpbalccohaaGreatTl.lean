/- The typed machine: a region that draws its order; code. -/
import Derived.Test.YtbbhfpbalccohaaGreatTk
namespace Go.Ve
theorem vdrawP{P:Program}{C:Ctx}{h:D5}{id:Nat}{ops:Array Oper}{Q:Exit->Act->World->Prop}{σ:List V}{t0:Nat->V}{X:Nat->Prop}(n:Nat){Kt:(Nat->V)->Prop}{a:Act}{w:World}(hm:P.follows .mixedOrders=true)(hok:DR ops n=true)
  (hv:vq P h ops σ (ops.toList.take n) Kt t0) (hX: ∀x,X x->∀j,AQ ops j≠some x)
  (hKt: ∀Q':Exit->Act->World->Prop,(∀a w,Q .normal a w->Q' .normal a w)->∀t a w,Kt t->(∀x,X x->AH (t x)=false)/\(AT C h.n (promA ((ops.toList.take n).map (·.dst)) ⟨t,σ⟩) a w->wpList P ops Q' (ops.toList.drop n) a w))
  (hp0: ∃D ρ F T,PR C h.n σ ρ F t0 a {w with drawn:=w.drawn+1} D T/\∀x b,T x b->X x):(Code.region id ops true).wp P Q a w:=by
 have hq:=MQ hok;refine wp_region_any hm ?_;obtain⟨r,m,hst,hK⟩:=Xc (n:=n) (t0:=t0) (K:=Kt) hq.le hq n 0 (fun _=>.dead) (fun _=>[]) (by omega) (by simpa [Cv]using hv) (fun j hj=>by omega)
 have inv0:HeadInv .any ops n (Array.replicate ops.size false):=
  ⟨by simp,fun j oj _ hl=>(by rw [getD_replicate_false]at hl;cases hl),fun t _ ht=>getD_in (by simpa using ht) (getD_replicate_false _ _)⟩
 obtain⟨D,ρ,F,T,hp,hTX⟩:=hp0
 have hpt: ∀x,pt ops n r m t0 (Array.replicate ops.size false) x=t0 x\/(pt ops n r m t0 (Array.replicate ops.size false) x= .dead/\∃k,AQ ops k=some x):=by
  intro x;unfold pt;cases ho:CI ops n x with
  |none=>exact .inl (C4 n fun i _ hs=>by rw [getD_replicate_false]at hs;cases hs)
  |some k=>
   right;show(if(Array.replicate ops.size false).getD k false=true then _ else V.dead)=_/\_
   rw [getD_replicate_false];exact⟨rfl,k,(Bm ho).2⟩
 have hp1:PR C h.n σ ρ F (pt ops n r m t0 (Array.replicate ops.size false)) a {w with drawn:=w.drawn+1} D T:=by
  refine⟨hp.df,hp.sz,fun x hx=>?_,hp.wr,fun x hx=>?_,hp.tD,hp.tF,hp.tT,hp.tn,hp.fr,hp.Fn,hp.D1,hp.D2,hp.rt,hp.ml,hp.tx⟩
  ·rcases hpt x with e|e
   ·rw [e];exact hp.dd x hx
   ·exact e.1
  ·rcases hpt x with e|⟨e,k,hk⟩
   ·rw [e];exact hp.tm x hx
   ·rw [e]
    exact fun b hb=>hX x (hTX x b hb) k hk
 have hend: ∀Q':Exit->Act->World->Prop,(∀a w,Q .normal a w->Q' .normal a w)->∀a w D T,PR C h.n σ ρ F (Cv ops r m t0 n) a w D T->(∀x b,T x b->AaR ops n X x)->wpList P ops Q' (ops.toList.drop n) a w:=by
  intro Q' hQ' a w D T hp hT;obtain⟨hfree,hgo⟩:=hKt Q' hQ' _ a w hK;refine hgo (PR.close _ _ _ _ _ _ hp fun x b ho=>?_)
  rcases hT x b ho with⟨i,hi,hd⟩|hx
  ·obtain⟨oi,hoi,_⟩:=hq.dst i hi
   refine List.mem_map.2 ⟨oi,?_,by simpa [AQ,hoi]using hd⟩
   refine List.mem_of_getElem? (i:=i) ?_;rw [List.getElem?_take,if_pos hi,Array.getElem?_toList];exact hoi
  ·exfalso
   by_cases hxn:x<h.n
   ·exact AC _ _ _ (hfree x hx) (hp.tm x hxn) b ho
   ·exact hp.tx x b (Nat.le_of_not_lt hxn) ho
 refine Aax (X:=X) hq (mok_of hq hst) hst (hend Q fun _ _ h=>h) (hend (QN Q) fun _ _ h=>⟨rfl,h⟩) ops.size _ a _ D T inv0 ?_ hp1 (fun x b hb=>.inr (hTX x b hb))
 ·have:unl (Array.replicate ops.size false) n<=n:=by
   unfold unl;have:=List.countP_le_length (p:=fun i=>!(Array.replicate ops.size false).getD i true) (l:=List.range n)
   simpa using this
  have:=hq.le;omega
def Hg(s:St)(y:Nat):Option Nat:=match s.t y with
 | .one (.rf id [])=>match s.r.getD id .dead with
  | .arr false _ _ _=>some id
  |_=>none
 |_=>none
def Z4(s:St)(y:Nat):Sl:=match s.t y with
 | .one (.rf id [])=>match s.r.getD id .dead with
  | .arr false t d xs=>.one (.c (.sl t) (d+1) xs)
  |_=>.one .dead
 |_=>.one .dead
def Q8(s:St):List Nat->Option (List Nat)
 | []=>some []
 |y::l=>match Hg s y with
  |some id=>match Q8 s l with
   |some m=>some (id::m)
   |none=>none
  |none=>none
def ndB:List Nat->Bool
 | []=>true
 |a::l=>!l.contains a&&ndB l
def KH(Y:List Nat)(s:St):Option St:=match Y with
 | []=>some s
 |Y=>match Q8 s Y with
  |some ids=>bif ndB ids then some ⟨fun i=>bif Y.contains i then Z4 s i else(Bq ids s).t i,(Bq ids s).r⟩else none
  |none=>none
theorem DD{s:St}{y id:Nat}(h:Hg s y=some id): ∃t d xs,s.t y= .one (.rf id [])/\s.r.getD id .dead= .arr false t d xs/\Z4 s y= .one (.c (.sl t) (d+1) xs):=by
 unfold Hg at h;split at h
 case h_2=>cases h
 rename_i id' hy;split at h
 case h_2=>cases h
 rename_i t d xs hr;cases h;refine⟨t,d,xs,hy,hr,?_⟩;unfold Z4;rw [hy];simp only [hr]
theorem Jn{s:St}: ∀ {Y ids:List Nat},Q8 s Y=some ids->(∀y∈Y,∃id∈ids,Hg s y=some id)/\(∀id∈ids,∃y∈Y,Hg s y=some id)
 | [],ids,h=>by cases h;exact⟨(fun _ h=>by cases h),(fun _ h=>by cases h)⟩
 |y::Y,ids,h=>by
  unfold Q8 at h;split at h
  case h_2=>cases h
  rename_i id hid;split at h
  case h_2=>cases h
  rename_i m hm;cases h;obtain⟨h1,h2⟩:=Jn hm;refine⟨fun z hz=>?_,fun i hi=>?_⟩
  ·rcases List.mem_cons.1 hz with rfl|hz
   ·exact⟨id,List.mem_cons_self ..,hid⟩
   ·obtain⟨i,hi,he⟩:=h1 z hz
    exact⟨i,mCM _ hi,he⟩
  ·rcases List.mem_cons.1 hi with rfl|hi
   ·exact⟨y,List.mem_cons_self ..,hid⟩
   ·obtain⟨z,hz,he⟩:=h2 i hi
    exact⟨z,mCM _ hz,he⟩
theorem VL{s:St}: ∀ {Y ids:List Nat},Q8 s Y=some ids->ndB ids=true->∀x∈Y,∀y∈Y,∀id,Hg s x=some id->Hg s y=some id->x=y
 | [],_,_,_,x,hx,_,_,_,_,_=>by cases hx
 |z::Y,ids,h,hn,x,hx,y,hy,id,h1,h2=>by
  unfold Q8 at h;split at h
  case h_2=>cases h
  rename_i id0 hid;split at h
  case h_2=>cases h
  rename_i m hm;cases h;have hn:(!m.contains id0&&ndB m)=true:=hn;rw [bAE,Bool.not_eq_true']at hn;have out: ∀u∈Y,Hg s u≠some id0:=by
   intro u hu he;obtain⟨i,hi,hi2⟩:=(Jn hm).1 u hu;rw [he]at hi2;cases hi2;have:m.contains id0=true:=by simpa using hi
   rw [hn.1]at this;cases this
  by_cases ex:x=z
  ·by_cases ey:y=z
   ·rw [ex,ey]
   ·have hy':y∈Y:=(List.mem_cons.1 hy).resolve_left ey
    rw [ex,hid]at h1;cases h1;exact absurd h2 (out y hy')
  ·have hx':x∈Y:=(List.mem_cons.1 hx).resolve_left ex
   by_cases ey:y=z
   ·rw [ey,hid]at h2
    cases h2;exact absurd h1 (out x hx')
   ·exact VL hm hn.2 x hx' y ((List.mem_cons.1 hy).resolve_left ey) id h1 h2
theorem Wp{C:Ctx}{N:Nat}{s s1:St}{Y:List Nat}{a:Act}{w:World}(h:KH Y s=some s1)(hs:AT C N s.den a w):
  ∃D ρ F T,PR C N s1.den.σ ρ F s1.den.t a {w with drawn:=w.drawn+1} D T/\∀x b,T x b->x∈Y:=by
 obtain⟨hdf,hdd,D0,ρ0,F0,hcr0⟩:=hs;obtain⟨D,ρ,F,hcr⟩:=hcr0.below (Below.drew w);have hsz:a.tmps.size=N:=by simpa using hcr.sz
 have base: ∀ {s1:St} {F1:Nat->Nat->Prop},CR C s1.den.σ ((List.range N).map s1.den.t) a.tmps {w with drawn:=w.drawn+1} D ρ F1->(∀x,N<=x->s1.den.t x= .dead)->PR C N s1.den.σ ρ F1 s1.den.t a {w with drawn:=w.drawn+1} D (fun _=>noF):=by
  intro s1 F1 hc hd;refine⟨hdf,hsz,hd,hc.wr,fun x hx=>?_,fun _ _ h=>h.elim,fun _ _ _ _ h=>h,fun _ _ _ _ h=>h.elim,fun _ _ h=>h.elim,hc.fr,hc.Fn,hc.D1,hc.D2,hc.rt,hc.ml,fun _ _ _ h=>h⟩
  have h1:=hc.tm x (by simpa using hx)
  rw [AN hx]at h1;exact h1
 unfold KH at h;split at h
 ·cases h
  exact⟨D,ρ,F,fun _=>noF,base hcr hdd,fun _ _ h=>h.elim⟩
 split at h
 case h_2=>cases h
 rename_i ids hids;cases hn:ndB ids with
 |false=>rw [hn]at h;cases h
 |true=>
 rw [hn]at h;cases h;obtain⟨v1,v2⟩:=Jn hids;have hlt: ∀j∈ids,j<s.r.length:=by
  intro j hj;obtain⟨y,_,hy⟩:=v2 j hj;obtain⟨t,d,xs,_,hr,_⟩:=DD hy;rcases Nat.lt_or_ge j s.r.length with h|h
  ·exact h
  ·rw [gDE,List.getElem?_eq_none h]at hr;cases hr
 obtain⟨F1,hcr1,hF1⟩:=HB ids hcr hlt;have hp:=base (s1:=Bq ids s) hcr1 (Dw ids hdd);have hYN: ∀y∈Y,y<N:=by
  intro y hy;obtain⟨id,_,hi⟩:=v1 y hy;obtain⟨t,d,xs,h1,_,_⟩:=DD hi;rcases Nat.lt_or_ge y N with h|h
  ·exact h
  ·have:=hdd y h
   have e:(s.t y).v s.r= .dead:=this;rw [h1]at e;cases e
 have hnot: ∀ {x:Nat},x∉Y->Y.contains x=false:=by
  intro x hx;cases hc:Y.contains x with
  |false=>rfl
  |true=>exact absurd (by simpa using hc) hx
 refine⟨D,ρ,F1,fun x b=>x∈Y/\∃id,Hg s x=some id/\F id b,⟨hdf,hsz,fun x hx=>?_,hp.wr,fun x hx=>?_,fun x b hb=>?_,fun i x b hb hT=>?_,fun x y b hxy h1 h2=>?_,fun x b hb=>?_,hp.fr,hp.Fn,hp.D1,hp.D2,hp.rt,hp.ml,fun x b hx hb=>?_⟩,fun x b hb=>hb.1⟩
 ·have hxY:x∉Y:=fun h=>absurd (hYN x h) (Nat.not_lt.2 hx)
  show(bif Y.contains x then Z4 s x else(Bq ids s).t x).v _= .dead;rw [hnot hxY];exact Dw ids hdd x hx
 ·by_cases hxY:x∈Y
  ·obtain⟨id,hi,hid⟩:=v1 x hxY
   obtain⟨t,d,xs,h1,h2,h3⟩:=DD hid;have hc:Y.contains x=true:=by simpa using hxY
   show Rel D _ _ ((bif Y.contains x then Z4 s x else(Bq ids s).t x).v _) (a.tmps.getD x undef) _;rw [hc,cond_true,h3];have hr:=hcr.tm x (by simpa using hx)
   rw [AN hx]at hr;have e0:s.den.t x= .rs id [] 0 (Af s.r id []).len:=by show(s.t x).v s.r=_;rw [h1];rfl
   rw [e0]at hr;obtain⟨⟨hidl,sz,n,f,cn,hat,hle,hcv⟩,_⟩:=hr;have hat:V.nd true true sz n f=s.den.σ.getD id .dead/\cn=ρ id:=hat;obtain⟨e1,e2⟩:=hat
   have e3:s.den.σ.getD id .dead=arr true t.w (tyV t d) t.dflt xs:=by
    show(s.r.map Ae.v).getD id .dead=_;rw [AK,h2];rfl
   have hlen:(Af s.r id []).len=xs.length:=by
    show(s.r.getD id .dead).len=_;rw [h2];rfl
   have hnn:n=xs.length:=by
    rw [e3]at e1;cases e1;rfl
   have ecv:a.tmps.getD x undef=ρ id:=by
    rw [<-e2];rcases hcv with⟨b,o,cap,g1,g2⟩|⟨g1,ad,_,g3⟩
    ·rw [g1,g2,hlen,<-hnn]
     show Value.slice (some ⟨b,o+0*sz,none⟩) n (cap-0)=Value.slice (some ⟨b,o,none⟩) n cap;rw [Nat.zero_mul,Nat.add_zero,Nat.sub_zero]
    ·exact g3 rfl (by rw [hnn,<-hlen];exact g1)
   rw [ecv];have hrel:=hcr.wr.rel id hidl;rw [e3]at hrel;refine Rel.fp_congr (fun b=>⟨fun hb=>⟨hxY,id,hid,hb⟩,fun⟨_,i,hi,hb⟩=>?_⟩) (Rel.noR_mono hrel)
   rw [hid]at hi;cases hi;exact hb
  ·show Rel D _ _ ((bif Y.contains x then Z4 s x else(Bq ids s).t x).v _) (a.tmps.getD x undef) _
   rw [hnot hxY,cond_false];exact Rel.fp_congr (fun b=>⟨fun h=>h.elim,fun h=>absurd h.1 hxY⟩) (hp.tm x hx)
 ·obtain⟨_,id,_,hb⟩:=hb
  exact hcr.wr.dD id b hb
 ·obtain⟨hxY,id,hid,hb2⟩:=hT
  obtain⟨g1,g2⟩:=hF1 i b hb;obtain⟨id',hi',he⟩:=v1 x hxY;rw [hid]at he;cases he;exact hcr.wr.disj i id b (fun e=>g2 (e▸hi')) g1 hb2
 ·obtain⟨hxY,id1,hid1,hb1⟩:=h1
  obtain⟨hyY,id2,hid2,hb2⟩:=h2;by_cases e:id1=id2
  ·subst e
   exact hxy (VL hids hn x hxY y hyY id1 hid1 hid2)
  ·exact hcr.wr.disj id1 id2 b e hb1 hb2
 ·obtain⟨_,id,_,hb⟩:=hb
  exact hcr.Fn id b hb
 ·exact absurd (hYN x hb.1) (Nat.not_lt.2 hx)
theorem Wq{s s1:St}{Y:List Nat}(h:KH Y s=some s1):Kp (fun _=>true) s s1:=by
 unfold KH at h;split at h
 ·cases h;exact Kp.refl _ _
 split at h
 case h_2=>cases h
 rename_i ids hids;cases hn:ndB ids with
 |false=>rw [hn]at h;cases h
 |true=>
 rw [hn]at h;cases h;obtain⟨v1,v2⟩:=Jn hids;have hk:=Ny ids s fun j hj=>by
  obtain⟨y,_,hy⟩:=v2 j hj;obtain⟨t,d,xs,_,hr,_⟩:=DD hy;rw [hr];rfl
 refine⟨fun i hi hs=>?_,hk.r,hk.l⟩
 have hiY:i∉Y:=by
  intro h;obtain⟨id,_,hid⟩:=v1 i h;obtain⟨t,d,xs,h1,_,_⟩:=DD hid;rw [h1]at hs;cases hs
 show(bif Y.contains i then Z4 s i else(Bq ids s).t i)=s.t i;have hc:Y.contains i=false:=by
  cases hc:Y.contains i with
  |false=>rfl
  |true=>exact absurd (by simpa using hc) hiY
 rw [hc];exact hk.t i hi hs
def St.promA:List (Option Nat)->St->St
 | [],s=>s
 |none::ds,s=>St.promA ds s
 |some d::ds,s=>bif(s.t d).own then St.promA ds (s.add d ((s.t d).prom s.r.length))else St.promA ds s
theorem Ay.trans: ∀ {v v' v'':V},Ay v v'->Ay v' v''->Ay v v'':=by
 have dd: ∀v'':V,Ay .dead v''->v''= .dead:=by
  intro v'' h;rcases h with h|h
  ·exact h
  ·exact h
 intro v
 induction v with
 |many t n f ih=>
  intro v' v'' h h';rcases h with rfl|⟨g,rfl,h⟩
  ·rw [dd _ h'];exact Ay.dead _
  ·rcases h' with rfl|⟨g',rfl,h'⟩
   ·exact Ay.dead _
   ·exact .inr ⟨g',rfl,fun k hk=>ih k (h k hk) (h' k hk)⟩
 |c v=>
  intro v' v'' h h';rcases h with rfl|h
  ·rw [dd _ h'];exact Ay.dead _
  ·rcases h with rfl|⟨rfl,own,sz,f,rfl⟩
   ·exact h'
   ·rcases h' with rfl|h'
    ·exact Ay.dead _
    ·exact .inr (Sub.trans (.inr ⟨rfl,own,sz,f,rfl⟩) h')
 |dead=>intro v' v'' h h';rw [dd _ h]at h';rw [dd _ h'];exact Ay.dead _
 |nd s own sz n f _=>
  intro v' v'' h h';rcases h with rfl|h
  ·rw [dd _ h'];exact Ay.dead _
  ·have h0:=h
   obtain⟨g,rfl,_⟩:=h;rcases h' with rfl|h'
   ·exact Ay.dead _
   ·exact .inr (Sub.trans h0 h')
 |rs id p off len=>
  intro v' v'' h h';rcases h with rfl|h
  ·rw [dd _ h'];exact Ay.dead _
  ·have h:v'= .rs id p off len:=h
   subst h;exact h'
 |rp id p i k=>
  intro v' v'' h h';rcases h with rfl|h
  ·rw [dd _ h'];exact Ay.dead _
  ·have h:v'= .rp id p i k:=h
   subst h;exact h'
structure PRel(ds:List (Option Nat))(S:Ms)(s:St):Prop where
 σ:S.σ=s.den.σ
 t: ∀i,Ay (S.t i) (s.den.t i)
 o: ∀i,some i∈ds->((s.t i).own=true->(s.t i).stay=true)/\(S.t i=s.den.t i\/((s.t i).own=false/\AH (S.t i)=false))
theorem stay_v{y:Sl}(h:y.stay=true)(r r':List Ae):y.v r=y.v r':=by
 have c1: ∀y:Cl,y.stay=true->y.v r=y.v r':=by intro y h;cases y<;>first|rfl|cases h
 have cl: ∀l:List Cl,l.all Cl.stay=true->l.map (Cl.v r)=l.map (Cl.v r'):=fun l h=>List.map_congr_left fun y hy=>c1 y (aET.1 h y hy)
 cases y with
 |one y=>exact c1 y h
 |new l=>rfl
 |agg l=>exact congrArg Ai (cl l h)
 |pk t l=>exact congrArg (pkL t) (cl l h)
 |tup l=>
  refine congrArg CP (List.map_congr_left fun p hp=>?_)
  rw [cl p.2 (aET.1 h p hp)]
theorem Z3(y:Sl)(m:Nat):(y.chk m).own=y.own:=by
 have c1: ∀y:Cl,(y.chk m).own=y.own:=by
  intro y;cases y with
  |rf id p=>show(bif Nat.blt id m then Cl.rf id p else .dead).own=_;cases Nat.blt id m<;>rfl
  |rs id p a b=>show(bif Nat.blt id m then Cl.rs id p a b else .dead).own=_;cases Nat.blt id m<;>rfl
  |rp id p a b=>show(bif Nat.blt id m then Cl.rp id p a b else .dead).own=_;cases Nat.blt id m<;>rfl
  |_=>rfl
 have cl: ∀l:List Cl,(l.map (Cl.chk m)).any Cl.own=l.any Cl.own:=by
  intro l;rw [List.any_map]
  congr 1
  funext y
  exact c1 y
 cases y with
 |one y=>exact c1 y
 |new l=>rfl
 |agg l=>exact cl l
 |pk t l=>exact cl l
 |tup l=>
  show(l.map _).any _=l.any _;rw [List.any_map]
  congr 1
  funext p
  obtain⟨b,l⟩:=p;cases b with
  |true=>exact cl l
  |false=>
   show((l.map (Cl.chk m)).getD 0 .dead).own=(l.getD 0 .dead).own;cases l with
   |nil=>rfl
   |cons y l=>exact c1 y
theorem Od{y:Sl}{m:Nat}{r:List Ae}:AH ((y.prom m).1.v r)=false:=by
 have pc: ∀ (m0 m:Nat) (y:Cl),((y.prom m0 m).1).own=false:=by
  intro m0 m y;cases y with
  |c t d x=>cases t<;>cases d<;>first|rfl|(cases x<;>rfl)|(show(bif Nat.blt 0 _ then(Cl.rp m [] 0 0,_)else(Cl.dead,_)).1.own=false;cases Nat.blt 0 _<;>rfl)
  |rf id p=>show(bif Nat.blt id m0 then Cl.rf id p else .dead).own=_;cases Nat.blt id m0<;>rfl
  |rs id p a b=>show(bif Nat.blt id m0 then Cl.rs id p a b else .dead).own=_;cases Nat.blt id m0<;>rfl
  |rp id p a b=>show(bif Nat.blt id m0 then Cl.rp id p a b else .dead).own=_;cases Nat.blt id m0<;>rfl
  |_=>rfl
 have pl: ∀ (m0:Nat) (l:List Cl) (m:Nat),((BS m0 m l).1).any Cl.own=false:=by
  intro m0 l
  induction l with
  |nil=>intro m;rfl
  |cons y l ih=>intro m;show(((y.prom m0 m).1).own||((BS m0 _ l).1).any Cl.own)=false;rw [pc,ih];rfl
 have pp: ∀ (m0:Nat) (l:List (Bool×List Cl)) (m:Nat),((C7 m0 m l).1).any (fun p=>if p.1 then p.2.any Cl.own else(p.2.getD 0 .dead).own)=false:=by
  intro m0 l
  induction l with
  |nil=>intro m;rfl
  |cons p l ih=>
   intro m;show((if(HQ m0 m p).1.1 then(HQ m0 m p).1.2.any Cl.own else((HQ m0 m p).1.2.getD 0 .dead).own)||((C7 m0 _ l).1).any _)=false
   rw [ih,Bool.or_false];obtain⟨b,l⟩:=p;cases b with
   |true=>exact pl m0 l m
   |false=>exact pc m0 m _
 rw [Sl.own_v];cases y with
 |one y=>exact pc m m y
 |new l=>show(bif Nat.blt 0 l.length then(Sl.one (.rp m [] 0 0),[Ae.obj false l])else(.one .dead,[])).1.own=false;cases Nat.blt 0 l.length<;>rfl
 |agg l=>exact pl m l m
 |pk t l=>exact pl m l m
 |tup l=>exact pp m l m
theorem pn: ∀ (v:V) (m:Nat),AH (Go.Ve.prom v m).1=false:=by
 have pf: ∀ (g:Nat->Nat->V×List V),(∀k m,AH (g k m).1=false)->∀n m,∀x∈(Bz g n m).1,AH x=false:=by
  intro g hg n m
  induction n with
  |zero=>intro x hx;cases hx
  |succ n ih=>
   intro x hx;unfold Bz at hx;simp only [List.mem_append,List.mem_singleton]at hx;rcases hx with hx|rfl
   ·exact ih x hx
   ·exact hg _ _
 intro v
 induction v with
 |many t n f ih=>
  intro m;show((List.range n).any fun k=>AH ((Bz (fun k=>Go.Ve.prom (f k)) n m).1.getD k .dead))=false
  rw [List.any_eq_false];intro k _;have h:=pf (fun k=>Go.Ve.prom (f k)) (fun k m=>ih k m) n m
  rw [gDE];cases hx:(Bz (fun k=>Go.Ve.prom (f k)) n m).1[k]? with
  |none=>simp [AH]
  |some x=>simp [h x (List.mem_of_getElem? hx)]
 |nd s own sz n f _=>
  intro m;cases own with
  |false=>cases s<;>rfl
  |true=>cases s with
   |true=>rfl
   |false=>
    show AH (if 0<sz then(V.rp m [] 0 0,[V.nd false true sz n f])else(.dead,[])).1=false
    split<;>rfl
 |_=>intro m;rfl
theorem Vx: ∀ (ds:List (Option Nat)) (S:Ms) (s:St),PRel ds S s->(∀i,Ay ((Go.Ve.promA ds S).t i) ((s.promA ds).den.t i))/\(Go.Ve.promA ds S).σ=(s.promA ds).den.σ:=by
 intro ds
 induction ds with
 |nil=>intro S s h;exact⟨h.t,h.σ⟩
 |cons d ds ih=>
  intro S s h;have hrest: ∀i,some i∈ds->some i∈d::ds:=fun i hi=>mCM _ hi
  cases d with
  |none=>exact ih S s ⟨h.σ,h.t,fun i hi=>h.o i (hrest i hi)⟩
  |some d=>
   show(∀i,Ay ((if AH (S.t d)then Go.Ve.promA ds ⟨AZ S.t d (Go.Ve.prom (S.t d) S.σ.length).1,S.σ++(Go.Ve.prom (S.t d) S.σ.length).2⟩else Go.Ve.promA ds S).t i) ((bif(s.t d).own then St.promA ds (s.add d ((s.t d).prom s.r.length))else St.promA ds s).den.t i))/\
    (if AH (S.t d)then Go.Ve.promA ds ⟨AZ S.t d (Go.Ve.prom (S.t d) S.σ.length).1,S.σ++(Go.Ve.prom (S.t d) S.σ.length).2⟩else Go.Ve.promA ds S).σ=(bif(s.t d).own then St.promA ds (s.add d ((s.t d).prom s.r.length))else St.promA ds s).den.σ
   obtain⟨_,hd⟩:=h.o d (List.mem_cons_self ..);cases ho:(s.t d).own with
   |false=>
    have:AH (S.t d)=false:=by
     rcases hd with e|e
     ·rw [e];show AH ((s.t d).v s.r)=false;rw [Sl.own_v,ho]
     ·exact e.2
    rw [this];exact ih S s ⟨h.σ,h.t,fun i hi=>h.o i (hrest i hi)⟩
   |true=>
    have e:S.t d=(s.t d).v s.r:=by
     rcases hd with e|e
     ·exact e
     ·rw [ho]at e;cases e.1
    have:AH (S.t d)=true:=by rw [e,Sl.own_v,ho]
    rw [this];have hl:S.σ.length=s.r.length:=by rw [h.σ];show(s.r.map Ae.v).length=_;exact List.length_map ..
    obtain⟨a1,a2⟩:=WN (s:=s) (d:=d) (y:=s.t d)
    have hself:(s.add d ((s.t d).prom s.r.length)).t d=((s.t d).prom s.r.length).1:=by
     have hu: ∀ (t:Nat->Sl) (y:Sl),A5 t d y d=y:=fun t y=>by unfold A5;rw [Nat.beq_refl];rfl
     unfold St.add;split
     ·exact hu _ _
     ·exact hu (fun i=>(s.t i).chk s.r.length) _
    have hother: ∀i,i≠d->(s.add d ((s.t d).prom s.r.length)).t i=s.t i\/(s.add d ((s.t d).prom s.r.length)).t i=(s.t i).chk s.r.length:=by
     intro i hi;unfold St.add;split
     ·exact .inl (Br hi)
     ·exact .inr (Br (t:=fun i=>(s.t i).chk s.r.length) hi)
    refine ih _ _ ⟨?_,fun i=>?_,fun i hi=>?_⟩
    ·show S.σ++(Go.Ve.prom (S.t d) S.σ.length).2=_
     rw [e,hl,h.σ];exact a2
    ·have h1:=a1 i
     show Ay (AZ S.t d (Go.Ve.prom (S.t d) S.σ.length).1 i) _;rw [e,hl];unfold AZ at h1⊢;by_cases hid:i=d
     ·rw [if_pos hid]at h1⊢;exact h1
     ·rw [if_neg hid]at h1⊢;exact(h.t i).trans h1
    ·obtain⟨k1,k2⟩:=h.o i (hrest i hi)
     by_cases hid:i=d
     ·subst hid
      rw [hself]
      have hno:(((s.t i).prom s.r.length).1).own=false:=by
       have:=Od (y:=s.t i) (m:=s.r.length) (r:=s.r);rw [Sl.own_v]at this;exact this
      refine⟨(fun h=>by rw [hno]at h;cases h),.inr ⟨hno,?_⟩⟩
      show AH (AZ S.t i (Go.Ve.prom (S.t i) S.σ.length).1 i)=false;unfold AZ;rw [if_pos rfl];exact pn _ _
     ·have hV:AZ S.t d (Go.Ve.prom (S.t d) S.σ.length).1 i=S.t i:=by unfold AZ;rw [if_neg hid]
      have hcase:(s.t i).own=true->(s.add d ((s.t d).prom s.r.length)).t i=s.t i:=fun hoi=>by
       rcases hother i hid with h'|h'
       ·exact h'
       ·rw [h',Sl.chk_stay (k1 hoi)]
      have hown:((s.add d ((s.t d).prom s.r.length)).t i).own=(s.t i).own:=by
       rcases hother i hid with h'|h'
       ·rw [h']
       ·rw [h',Z3]
      refine⟨fun hoi=>?_,?_⟩
      ·rw [hown]at hoi
       rw [hcase hoi];exact k1 hoi
      ·cases hoi:(s.t i).own with
       |false=>
        refine .inr ⟨by rw [hown,hoi],?_⟩
        show AH (AZ S.t d (Go.Ve.prom (S.t d) S.σ.length).1 i)=false;rw [hV];rcases k2 with k2|k2
        ·rw [k2];show AH ((s.t i).v s.r)=false;rw [Sl.own_v,hoi]
        ·exact k2.2
       |true=>
        left;show AZ S.t d (Go.Ve.prom (S.t d) S.σ.length).1 i=_;rw [hV];rcases k2 with k2|k2
        ·rw [k2]
         show(s.t i).v s.r=((s.add d ((s.t d).prom s.r.length)).t i).v _;rw [hcase hoi];exact stay_v (k1 hoi) _ _
        ·rw [hoi]at k2;cases k2.1
theorem add_kp{s:St}{d:Nat}{p:Sl×List Ae}:Kp (fun i=>decide (i≠d)) s (s.add d p):=by
 unfold St.add;split
 ·exact⟨fun i hi _=>Br (of_decide_eq_true hi),fun _ _ _=>rfl,Nat.le_refl _⟩
 ·rename_i q new _
  refine⟨fun i hi hs=>?_,fun id hl hid=>?_,by simp⟩
  ·show A5 (fun i=>(s.t i).chk s.r.length) d p.1 i=s.t i
   rw [Br (of_decide_eq_true hi)];exact Sl.chk_stay hs _
  ·show(s.r++q::new).getD id .dead=_
   simp only [gDE,gAL hl]
theorem IA: ∀ (l:List Oper) (s:St),Kp (Aq l) s (s.promA (l.map (·.dst)))
 | [],s=>Kp.refl _ _
 |o::l,s=>by
  have hc: ∀i,Aq (o::l) i=true->o.dst≠some i/\Aq l i=true:=by
   intro i h
   have hc:Aq (o::l) i=((match o.dst with
    |some e=>!Nat.beq e i
    |none=>true)&&Aq l i):=rfl
   rw [hc,bAE]at h;refine⟨fun hd=>?_,h.2⟩
   rw [hd]at h;have:=h.1;simp only [Nat.beq_refl,Bool.not_true]at this;cases this
  rw [List.map_cons];cases hd:o.dst with
  |none=>exact(IA l s).weak fun i hi=>(hc i hi).2
  |some d=>
   show Kp _ s (bif(s.t d).own then St.promA (l.map (·.dst)) (s.add d ((s.t d).prom s.r.length))else St.promA (l.map (·.dst)) s)
   cases (s.t d).own with
   |false=>exact(IA l s).weak fun i hi=>(hc i hi).2
   |true=>
    exact Kp.trans add_kp (IA l _) (fun i hi=>dT fun e=>(hc i hi).1 (by rw [hd,e])) fun i hi=>(hc i hi).2
def LF(l:List Oper)(s:St):Bool:=l.all fun o=>match o.dst with
 |some d=>!(s.t d).own||(s.t d).stay
 |none=>true
def yL(E:Env)(ops:Array Oper):List Nat:=ops.toList.filterMap fun o=>match o.op with
 | .assign (.tmp y)=>bif dX E y&&Ig ops y then some y else none
 | .move (.tmp y)=>bif dX E y&&Ig ops y then some y else none
 |_=>none
def yOK(E:Env)(ops:Array Oper):Bool:=ops.toList.all fun o=>match o.op with
 | .assign (.tmp y)=>!dX E y||Ig ops y
 | .move (.tmp y)=>!dX E y||Ig ops y
 |_=>true
def UI{R:Type}(E:Env)(n:Nat)(ops:Array Oper)(s:St)(K:St->Option R):Option R:=
 bif DR ops n&&yOK E ops then
  WZ E true ops (Uq n (ops.toList.take n)) s fun s1=>
   bif LF (ops.toList.take n) s1&&(yL E ops).all (fun y=>!(s1.t y).own)then W0 E ops (Uq ops.size (ops.toList.drop n)) (s1.promA ((ops.toList.take n).map (·.dst))) K else none
 else none
theorem Dn{a b:List Oper}{i:Nat}:Aq (a++b) i=(Aq a i&&Aq b i):=by
 unfold Aq;rw [List.all_append]
theorem yB_mem{E:Env}{ops:Array Oper}{i:Nat}(hok:yOK E ops=true)(h:yB E ops.toList i=true):i∈yL E ops:=by
 unfold yB at h;rw [bAE]at h;obtain⟨hx,h⟩:=h;obtain⟨o,ho,hm⟩:=List.any_eq_true.1 h;have h2:=aET.1 hok o ho;refine List.mem_filterMap.2 ⟨o,ho,?_⟩;unfold Ng at hm;split at hm
 ·rename_i z hop
  have e:=bqE hm;subst e;rw [hop]at h2;simp only [hx,Bool.not_true,Bool.false_or]at h2;simp only [hop,hx,h2,Bool.and_self,cond_true]
 ·rename_i z hop
  have e:=bqE hm;subst e;rw [hop]at h2;simp only [hx,Bool.not_true,Bool.false_or]at h2;simp only [hop,hx,h2,Bool.and_self,cond_true]
 ·cases hm
theorem yL_nd{E:Env}{ops:Array Oper}{i:Nat}(h:i∈yL E ops): ∀j,AQ ops j≠some i:=by
 obtain⟨o,_,he⟩:=List.mem_filterMap.1 h;split at he
 ·rename_i y hop
  cases hb:(dX E y&&Ig ops y)with
  |false=>rw [hb]at he;cases he
  |true=>
   rw [hb]at he;cases he;rw [bAE]at hb;exact Jb hb.2
 ·rename_i y hop
  cases hb:(dX E y&&Ig ops y)with
  |false=>rw [hb]at he;cases he
  |true=>
   rw [hb]at he;cases he;rw [bAE]at hb;exact Jb hb.2
 ·cases he
theorem UH{P:Program}{E:Env}{C:Ctx}(hE:EOK P E)(hm:P.follows .mixedOrders=true){R:Type}{id n:Nat}{ops:Array Oper}{s:St}{K:St->Option R}{z:R}{a:Act}{w:World}{Q:Exit->Act->World->Prop}
  (hpr: ∃D ρ F T,PR C E.h.n s.den.σ ρ F s.den.t a {w with drawn:=w.drawn+1} D T/\∀x b,T x b->x∈yL E ops)
  (h:UI E n ops s K=some z) (hK: ∀s' a' w',Kp (fun i=>Aq ops.toList i&& !(yL E ops).contains i) s s'->AT C E.h.n s'.den a' w'->K s'=some z->Q .normal a' w'):(Code.region id ops true).wp P Q a w:=by
 unfold UI at h;cases hok:(DR ops n&&yOK E ops)with
 |false=>rw [hok]at h;cases h
 |true=>
  rw [hok]at h;simp only [cond_true]at h;rw [bAE]at hok;obtain⟨hok,hyk⟩:=hok
  let K1:St->Option R:=fun s1=>bif LF (ops.toList.take n) s1&&(yL E ops).all (fun y=>!(s1.t y).own)then W0 E ops (Uq ops.size (ops.toList.drop n)) (s1.promA ((ops.toList.take n).map (·.dst))) K else none
  have hv:=Xh hE (ops:=ops) (K:=K1) (z:=z) (Kt:=fun t=>∃s1:St,s1.r=s.r/\(∀i,Aq ops.toList i=true->yB E ops.toList i=false->s1.t i=s.t i)/\VLe t s1.den.t/\K1 s1=some z) (Uq n (ops.toList.take n)) s s.den.t (fun o ho=>by rw [B1]at ho;exact List.mem_of_mem_take ho) (fun i=>.inl rfl) h
   (fun s' t' h1 h2 h3 h4=>⟨s',h1,h2,h3,h4⟩)
  rw [B1]at hv;refine vdrawP (X:=fun x=>x∈yL E ops) n hm hok hv (fun x hx=>yL_nd hx) ?_ hpr
  rintro Q' hQ' t a1 w1 ⟨s1,hr1,ht1,hvl,hK1⟩
  have hK1:(bif LF (ops.toList.take n) s1&&(yL E ops).all (fun y=>!(s1.t y).own)then W0 E ops (Uq ops.size (ops.toList.drop n)) (s1.promA ((ops.toList.take n).map (·.dst))) K else none)=some z:=hK1
  cases ho:(LF (ops.toList.take n) s1&&(yL E ops).all (fun y=>!(s1.t y).own))with
  |false=>rw [ho]at hK1;cases hK1
  |true=>
   rw [ho]at hK1;simp only [cond_true]at hK1;rw [bAE]at ho;obtain⟨ho,hyo⟩:=ho;refine⟨fun x hx=>?_,fun hs1=>?_⟩
   ·have h1:=aET.1 hyo x hx
    have h2:AH (s1.den.t x)=false:=by
     show AH ((s1.t x).v s1.r)=false;rw [Sl.own_v];simpa using h1
    rcases hvl x with e|e
    ·rw [e];exact h2
    ·exact e.2
   have hP:PRel ((ops.toList.take n).map (·.dst)) ⟨t,s.den.σ⟩ s1:=by
    refine⟨by show s.r.map Ae.v=s1.r.map Ae.v;rw [hr1],fun i=>?_,fun i hi=>⟨fun hoi=>?_,?_⟩⟩
    ·rcases hvl i with e|e
     ·show Ay (t i) _
      rw [e];exact Ay.refl _
     ·rw [e.1];exact Ay.dead _
    ·obtain⟨o,ho1,ho2⟩:=List.mem_map.1 hi
     have:=aET.1 ho o ho1;rw [ho2]at this;simp only [Bool.or_eq_true,Bool.not_eq_true']at this;rcases this with h|h
     ·rw [hoi]at h;cases h
     ·exact h
    ·rcases hvl i with e|e
     ·exact .inl e
     ·right
      refine⟨?_,e.2⟩
      have:AH ((s1.t i).v s1.r)=false:=by
       show AH (s1.den.t i)=false;rw [e.1];rfl
      rw [Sl.own_v]at this;exact this
   obtain⟨g1,g2⟩:=Vx _ _ _ hP;have hs2:AT C E.h.n (s1.promA ((ops.toList.take n).map (·.dst))).den a1 w1:=hs1.sub (by rw [g2]) (fun i _=>by rw [g2];exact Sub.refl _) g1
   have e:ops.toList.drop n=(Uq ops.size (ops.toList.drop n)).flatMap Seg.ops:=(B1 _ _).symm;rw [e];refine UC hE _ _ a1 w1 hs2 hK1 fun s' a' w' hk hs' hz=>hQ' _ _ (hK s' a' w' ?_ hs' hz)
   rw [B1]at hk
   have hsp: ∀i,(Aq ops.toList i&& !(yL E ops).contains i)=true->Aq ops.toList i=true/\yB E ops.toList i=false:=by
    intro i hi;rw [bAE,Bool.not_eq_true']at hi;refine⟨hi.1,?_⟩;cases hy:yB E ops.toList i with
    |false=>rfl
    |true=>
     have:=yB_mem hyk hy;have:(yL E ops).contains i=true:=by simpa using this
     rw [hi.2]at this;cases this
   have k0:Kp (fun i=>Aq ops.toList i&& !(yL E ops).contains i) s s1:=⟨fun i hi _=>ht1 i (hsp i hi).1 (hsp i hi).2,fun _ _ _=>by rw [hr1],by rw [hr1];exact Nat.le_refl _⟩
   have k1:=IA (ops.toList.take n) s1
   have hsplit: ∀i,(Aq ops.toList i&& !(yL E ops).contains i)=true->Aq (ops.toList.take n) i=true/\Aq (ops.toList.drop n) i=true:=by
    intro i hi;have hi:=(hsp i hi).1;rw [<-List.take_append_drop n ops.toList,Dn,bAE]at hi;exact hi
   exact(k0.trans k1 (fun i hi=>hi) fun i hi=>(hsplit i hi).1).trans hk (fun i hi=>hi) fun i hi=>(hsplit i hi).2
def Zp{R:Type}(E:Env)(n:Nat)(ops:Array Oper)(s:St)(K:St->Option R):Option R:=match Nt (ops.toList.flatMap (capsF E.h.fz)) s with
 |some s0=>match KH (yL E ops) s0 with
  |some s1=>UI E n ops s1 K
  |none=>none
 |none=>none
theorem Xi{P:Program}{E:Env}{C:Ctx}(hE:EOK P E)(hm:P.follows .mixedOrders=true){R:Type}{id n:Nat}{ops:Array Oper}{s:St}{K:St->Option R}{z:R}{a:Act}{w:World}{Q:Exit->Act->World->Prop}(hs:AT C E.h.n s.den a w)
  (h:Zp E n ops s K=some z) (hK: ∀s' a' w',Kp (Aq ops.toList) s s'->AT C E.h.n s'.den a' w'->K s'=some z->Q .normal a' w'):(Code.region id ops true).wp P Q a w:=by
 unfold Zp at h;split at h
 case h_2=>cases h
 rename_i s0 hg;split at h
 case h_2=>cases h
 rename_i s1 hd;refine UH hE hm (Wp hd (II _ hg hs)) h fun s' a' w' hk=>hK s' a' w' ?_
 have k1:=IJ _ hg;have k2:=Wq hd
 have k3:Kp (Aq ops.toList) s0 s':=by
  refine⟨fun i hi hst=>?_,fun id hl hro=>?_,Nat.le_trans k2.l hk.l⟩
  ·have e:=k2.t i rfl hst
   have hiY:(yL E ops).contains i=false:=by
    cases hc:(yL E ops).contains i with
    |false=>rfl
    |true=>
     have hm:i∈yL E ops:=by simpa using hc
     exfalso;unfold KH at hd;split at hd
     ·rename_i hY
      rw [hY]at hm;cases hm
     split at hd
     case h_2=>cases hd
     rename_i ids hids;obtain⟨id,_,hid⟩:=(Jn hids).1 i hm;obtain⟨t,d,xs,h1,_,_⟩:=DD hid;rw [h1]at hst;cases hst
   rw [hk.t i (by rw [hi,hiY];rfl) (by rw [e];exact hst),e]
  ·have e:=k2.r id hl hro
   rw [hk.r id (Nat.lt_of_lt_of_le hl k2.l) (by rw [e];exact hro),e]
 exact k1.trans k3 (fun _ _=>rfl) fun _ hi=>hi
end Go.Ve

