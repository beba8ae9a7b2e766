/- The typed machine: what a function hands back; its contract. -/
import Derived.Test.YtbbhfpbalccohaaGreatTo
namespace Go.Ve
def divP:AP->AP->Bool
 |(_,k)::p,(_,l)::q=>!Nat.beq k l||divP p q
 |_,_=>false
theorem PX{x:V}: ∀ {p q:AP} (_:divP p q=true) (v:V),sub q (upd p v x)=sub q v/\AW p q=false
 |(i,k)::p,(j,l)::q,h0,v=>by
  have h:(!Nat.beq k l||divP p q)=true:=h0;clear h0;by_cases hkl:k=l
  ·subst hkl
   rw [Nat.beq_refl,Bool.not_true,Bool.false_or]at h;refine⟨?_,?_⟩
   ·cases v with
    |nd s o sz n f=>
     show sub q (if j=i/\k=k then upd p (f i k) x else f j k)=sub q (f j k)
     by_cases hji:j=i
     ·subst hji
      rw [if_pos ⟨rfl,rfl⟩];exact(PX h (f j k)).1
     ·rw [if_neg (fun e=>hji e.1)]
    |_=>rfl
   ·show(i==j&&k==k&&AW p q)=false
    rw [(PX (x:=x) h v).2,Bool.and_false]
  ·refine⟨?_,?_⟩
   ·cases v with
    |nd s o sz n f=>
     show sub q (if j=i/\l=k then upd p (f i k) x else f j l)=sub q (f j l)
     rw [if_neg (fun e=>hkl e.2.symm)]
    |_=>rfl
   ·show(i==j&&k==l&&AW p q)=false
    have:(k==l)=false:=by simpa using hkl
    rw [this,Bool.and_false,Bool.false_and]
 | [],_,h,_=>by cases h
 |_::_,[],h,_=>by cases h
def CG:List Cl->List (Nat×AP)
 | []=>[]
 | .rf id p::l=>(id,p)::CG l
 |_::l=>CG l
def PW(a b:Nat×AP):Bool:=!Nat.beq a.1 b.1||divP a.2 b.2
def NA:List (Nat×AP)->Bool
 | []=>true
 |a::l=>l.all (PW a)&&NA l
def Zq(r:List Ae):Cl->Option Cl
 | .c t d x=>some (.c t d x)
 | .nil=>some .nil
 | .nilp=>some .nilp
 | .rf id p=>match Af r id p with
  | .arr _ t d xs=>some (.c (.sl t) (d+1) xs)
  |_=>none
 |_=>none
def Mw(r:List Ae):List Cl->Option (List Cl)
 | []=>some []
 |y::l=>match Zq r y with
  |some z=>match Mw r l with
   |some m=>some (z::m)
   |none=>none
  |none=>none
theorem PE{id:Nat}{q:AP}: ∀ {l:List Cl},Cl.rf id q∈l->(id,q)∈CG l
 | [],h=>by cases h
 |z::l,h=>by
  rcases List.mem_cons.1 h with h|h
  ·subst h;exact List.mem_cons_self ..
  ·have:=PE h
   cases z<;>first|exact this|exact mCM _ this
theorem IQ{r:List Ae}{y:Cl}: ∀ {l l1:List Cl},Mw r l=some l1->y∈l->∃z,Zq r y=some z
 | [],_,_,h=>by cases h
 |z::l,l1,hl,h=>by
  unfold Mw at hl;split at hl
  case h_2=>cases hl
  rename_i z1 hz1;split at hl
  case h_2=>cases hl
  rename_i l2 hl2;rcases List.mem_cons.1 h with h|h
  ·subst h;exact⟨z1,hz1⟩
  ·exact IQ hl2 h
theorem Zn{m id:Nat}{p:AP}{n:Nat}{vs σ:List V}:tkL (m+1) (V.rs id p 0 n::vs) σ=(match sub p (σ.getD id .dead)with
   | .nd true true sz n' f=>if 0=0/\n=n' then .nd true true sz n' f::tkL m (vs.map fun v=>A8 σ.length [] (rrV id p σ.length v)) (σ.set id (upd p (σ.getD id .dead) .dead)++ [.dead])else .dead::tkL m vs σ
   |_=>.dead::tkL m vs σ):=rfl
theorem tkL_v(r:List Ae): ∀ (l l':List Cl) (m:Nat) (σ:List V),l.length<=m->l.all Cl.plain=true->Mw r l=some l'->NA (CG l)=true->
  (∀id p,(id,p)∈CG l->sub p (σ.getD id .dead)=(Af r id p).v/\id<σ.length)->tkL m (l.map (Cl.v r)) σ=l'.map Cl.v0:=by
 intro l
 induction l with
 |nil=>intro l' m σ _ _ h _ _;cases h;cases m<;>rfl
 |cons y l ih=>
  intro l' m σ hm hp h hd hσ;cases m with
  |zero=>simp at hm
  |succ m=>
   simp only [List.length_cons]at hm;rw [List.all_cons,bAE]at hp;unfold Mw at h;split at h
   case h_2=>cases h
   rename_i z hz;split at h
   case h_2=>cases h
   rename_i l1 hl1;cases h
   have plainly: ∀v:V,y.v r=v->v=z.v0->CG (y::l)=CG l->(∀vs,tkL (m+1) (v::vs) σ=v::tkL m vs σ)->tkL (m+1) ((y::l).map (Cl.v r)) σ=(z::l1).map Cl.v0:=by
    intro v hv hvz hrf htk;rw [List.map_cons,List.map_cons,hv,htk,<-hvz]
    congr 1
    exact ih l1 m σ (by omega) hp.2 hl1 (by rw [hrf]at hd;exact hd) fun id p hm=>hσ id p (by rw [hrf];exact hm)
   cases y with
   |c t d x=>
    cases hz;cases t<;>first|exact plainly _ rfl rfl rfl (fun _=>rfl)|cases hp.1
   |nil=>cases hz;exact plainly _ rfl rfl rfl fun _=>rfl
   |nilp=>cases hz;exact plainly _ rfl rfl rfl fun _=>rfl
   |nilf=>cases hz
   |rf id p=>
    unfold Zq at hz;simp only at hz;split at hz
    case h_2=>cases hz
    rename_i ro t d xs hn;cases hz;have hd':((CG l).all (PW (id,p))&&NA (CG l))=true:=hd;rw [bAE]at hd';obtain⟨hs,hid⟩:=hσ id p (List.mem_cons_self ..);rw [hn]at hs;have hs:sub p (σ.getD id .dead)= .nd true true t.w xs.length fun i k=>(tyV t d (xs.getD i t.dflt)).getD k .dead:=hs
    rw [List.map_cons];show tkL (m+1) (V.rs id p 0 (Af r id p).len::l.map (Cl.v r)) σ=_;rw [hn];show tkL (m+1) (V.rs id p 0 xs.length::l.map (Cl.v r)) σ=_
    have e:tkL (m+1) (V.rs id p 0 xs.length::l.map (Cl.v r)) σ=(V.nd true true t.w xs.length fun i k=>(tyV t d (xs.getD i t.dflt)).getD k .dead)::
      tkL m ((l.map (Cl.v r)).map fun v=>A8 σ.length [] (rrV id p σ.length v)) (σ.set id (upd p (σ.getD id .dead) .dead)++ [.dead]):=by
     rw [Zn,hs];exact if_pos ⟨rfl,rfl⟩
    rw [e,List.map_cons]
    congr 1
    -- the rest is as it was
    have hsame:(l.map (Cl.v r)).map (fun v=>A8 σ.length [] (rrV id p σ.length v))=l.map (Cl.v r):=by
     rw [List.map_map];refine List.map_congr_left fun y hy=>?_
     show A8 σ.length [] (rrV id p σ.length (y.v r))=y.v r;cases y with
     |c t d x=>cases t<;>first|rfl|exact(congrArg (A8 σ.length []) ((CW id p σ.length).osl (d:=d))).trans ((BL σ.length []).osl (d:=d))|exact(congrArg (A8 σ.length []) ((CW id p σ.length).clo (d:=d))).trans ((BL σ.length []).clo (d:=d))
     |dead=>rfl
     |nil=>rfl
     |nilp=>rfl
     |nilf=>rfl
     |rf id' q=>
      have hmem:(id',q)∈CG l:=PE hy;have hdv:=aET.1 hd'.1 _ hmem;have hlt:=(hσ id' q (mCM _ hmem)).2
      have hn1: ¬ (id'=id/\AW p q=true):=by
       rintro ⟨h1,h2⟩
       unfold PW at hdv;simp only [h1,Nat.beq_refl,Bool.not_true,Bool.false_or]at hdv;rw [(PX (x:=.dead) hdv .dead).2]at h2;cases h2
      show A8 σ.length [] (rrV id p σ.length (.rs id' q 0 (Af r id' q).len))=_;simp only [rrV,if_neg hn1,A8];rw [if_neg (by rintro ⟨h,_⟩;omega)]
      rfl
     |rs id' q a b=>obtain⟨z,hz⟩:=IQ hl1 hy;cases hz
     |rp id' q a b=>obtain⟨z,hz⟩:=IQ hl1 hy;cases hz
    rw [hsame];refine ih l1 m _ (by omega) hp.2 hl1 hd'.2 fun id' q hmem=>?_
    obtain⟨h1,h2⟩:=hσ id' q (mCM _ hmem);have hdv:=aET.1 hd'.1 _ hmem;refine⟨?_,by simp;omega⟩
    have hlt:id'<(σ.set id (upd p (σ.getD id .dead) .dead)).length:=by simpa using h2
    rw [AF hlt];by_cases hii:id=id'
    ·subst hii
     rw [Ao hid,<-h1];unfold PW at hdv;simp only [Nat.beq_refl,Bool.not_true,Bool.false_or]at hdv;exact(PX hdv _).1
    ·rw [Al hii,h1]
   |dead=>cases hz
   |rs=>cases hz
   |rp=>cases hz
def retV1(Θ:Tab)(s:St):ResultVar->Option Sl
 | .tmp t=>some (s.t t)
 | .cell a t=>match UP s (Θ.look t) (s.ev (.tmp a))with
  |some (.ok y)=>some y
  |_=>none
def Xw(Θ:Tab)(s:St):List ResultVar->Option (List Sl)
 | []=>some []
 |v::l=>match retV1 Θ s v with
  |some y=>match Xw Θ s l with
   |some m=>some (y::m)
   |none=>none
  |none=>none
def cellsOf:List Sl->Option (List (Bool×List Cl))
 | []=>some []
 |y::l=>match y with
  | .one c=>match(Sl.one c).cells,cellsOf l with
   |some m,some n=>some ((false,m)::n)
   |_,_=>none
  | .agg c=>match(Sl.agg c).cells,cellsOf l with
   |some m,some n=>some ((true,m)::n)
   |_,_=>none
  |_=>none
def VD(t:Ty)(d:Nat)(l:List Cl):Option t.T:=HT t d (l.map (fit d))
theorem VC{t:Ty}{d:Nat}{l:List Cl}{x:t.T}(h:VD t d l=some x)(r:List Ae):C5 (l.map (Cl.v r)) (tyV t d x)/\l.map (Cl.v r)=l.map Cl.v0:=by
 have:=Hn h r
 have e1:(l.map (fit d)).map (Cl.v r)=l.map (Cl.v r):=by
  rw [List.map_map];exact List.map_congr_left fun c _=>(AaD d r c).1
 have e2:(l.map (fit d)).map Cl.v0=l.map Cl.v0:=by
  rw [List.map_map];exact List.map_congr_left fun c _=>(AaD d r c).2
 rw [e1,e2]at this;exact this
def Kk(b:Bool)(p:Bool×Nat×Ty)(l:List Cl):Option p.2.2.T:=bif b|| !isP p then VD p.2.2 p.2.1 l else match l with
 | [.nilp]=>some p.2.2.dflt
 |_=>none
def Pv(b:Bool):(rs:List (Bool×Nat×Ty))->List (Bool×List Cl)->List Cl->Option (RT rs).T
 | [],[],[]=>some ()
 | [p],[q],l=>bif p.1==q.1&&(p.1||p.2.2.one)&&Nat.beq l.length q.2.length then Kk b p l else none
 |p::p'::rs,q::q'::qs,l=>bif p.1==q.1&&(p.1||p.2.2.one)&&Nat.ble q.2.length l.length then(match Kk b p (l.take q.2.length)with
  |some x=>match Pv b (p'::rs) (q'::qs) (l.drop q.2.length)with
   |some z=>some (x,z)
   |none=>none
  |none=>none)else none
 |_,_,_=>none
def AaW(b:Bool)(Θ:Tab)(rv:List ResultVar)(rs:List (Bool×Nat×Ty))(s:St):Option (RT rs).T:=match Xw Θ s rv with
 |some ys=>match cellsOf ys with
  |some ls=>match Mw s.r (ls.flatMap (·.2))with
   |some m=>bif NA (CG (ls.flatMap (·.2)))then Pv b rs ls m else none
   |none=>none
  |none=>none
 |none=>none
def retK(Θ:Tab)(rv:List ResultVar)(rs:List (Bool×Nat×Ty)):Exit->St->Option (RT rs).T
 | .normal,s=>AaW true Θ rv rs s
 | .ret,s=>AaW true Θ rv rs s
 |_,_=>none
def retN(Θ:Tab)(rv:List ResultVar)(rs:List (Bool×Nat×Ty))(s:St):Option (Bool×(RT rs).T):=match AaW true Θ rv rs s with
 |some z=>some (true,z)
 |none=>match AaW false Θ rv rs s with
  |some z=>some (false,z)
  |none=>none
def retKN(Θ:Tab)(rv:List ResultVar)(rs:List (Bool×Nat×Ty)):Exit->St->Option (Bool×(RT rs).T)
 | .normal,s=>retN Θ rv rs s
 | .ret,s=>retN Θ rv rs s
 |_,_=>none
def pS(b:Bool)(t:Ty)(x:t.T):Sl:=bif b then .agg (Au t 0 x)else .one (.c t 0 x)
def Aa5:(l:List (Bool×Ty))->(PT l).T->List Sl
 | [],_=>[]
 | [p],x=>[pS p.1 p.2 x]
 |p::q::l,x=>pS p.1 p.2 x.1::Aa5 (q::l) x.2
def HM(l:List (Bool×Ty))(x:(PT l).T):St:=⟨fun i=>(Aa5 l x).getD i (.one .dead),[]⟩
noncomputable def tfun(E:AA)(body:Code)(rv:List ResultVar)(S:Sig)(x:(PT S.ps).T):Option (RT S.rs).T:=Zo E body (HM S.ps x) (retK E.Θ rv S.rs)
theorem ND{s:St}: ∀ (ys:List Sl) (ls:List (Bool×List Cl)),cellsOf ys=some ls->(ys.map (Sl.v s.r)).all Bp=true/\(ys.map (Sl.v s.r)).flatMap Go.Ve.cellsV=(ls.flatMap (·.2)).map (Cl.v s.r)/\(ls.flatMap (·.2)).all Cl.plain=true/\ls.length=ys.length
 | [],ls,h=>by cases h;exact⟨rfl,rfl,rfl,rfl⟩
 |y::ys,ls,h=>by
  have go: ∀ (b:Bool) (m:List Cl) (n:List (Bool×List Cl)),y.cells=some m->cellsOf ys=some n->ls=(b,m)::n->((y::ys).map (Sl.v s.r)).all Bp=true/\((y::ys).map (Sl.v s.r)).flatMap Go.Ve.cellsV=(ls.flatMap (·.2)).map (Cl.v s.r)/\(ls.flatMap (·.2)).all Cl.plain=true/\ls.length=(y::ys).length:=by
   intro b m n hm hn e;subst e;obtain⟨h1,h2,h3⟩:=Cr (r:=s.r) hm;obtain⟨g1,g2,g3,g4⟩:=ND ys n hn;refine⟨by rw [List.map_cons,List.all_cons,h1,g1];rfl,?_,?_,by simp [g4]⟩
   ·rw [List.map_cons,List.flatMap_cons,List.flatMap_cons,List.map_append,h2,g2]
   ·rw [List.flatMap_cons,List.all_append,h3,g3];rfl
  unfold cellsOf at h;split at h
  ·split at h
   ·rename_i m n hm hn
    cases h;exact go _ _ _ hm hn rfl
   ·cases h
  ·split at h
   ·rename_i m n hm hn
    cases h;exact go _ _ _ hm hn rfl
   ·cases h
  ·cases h
theorem Dx{s:St}: ∀ (ys:List Sl) (ls:List (Bool×List Cl)),cellsOf ys=some ls->∀k,k<ls.length->((ls.getD k (false,[])).1=true/\(∃l,(ys.getD k (.one .dead)).v s.r=Ai l/\l.length=(ls.getD k (false,[])).2.length))\/((ls.getD k (false,[])).1=false/\(∀t n f,(ys.getD k (.one .dead)).v s.r≠.many t n f)/\(ls.getD k (false,[])).2.length=1)
 | [],ls,h,k,hk=>by cases h;simp at hk
 |y::ys,ls,h,k,hk=>by
  unfold cellsOf at h;split at h
  ·rename_i c
   split at h
   ·rename_i m n hm hn
    cases h;cases k with
    |zero=>
     right;refine⟨rfl,?_,?_⟩
     ·have hm:(bif c.plain then some [c]else none)=some m:=hm
      cases hb:c.plain with
      |false=>rw [hb]at hm;cases hm
      |true=>
       show ∀t n f,c.v s.r≠.many t n f;cases c with
       |c t d x=>cases t<;>first|(cases hb;done)|(intro _ _ _ h;cases h)
       |_=>intro _ _ _ h;cases h
     ·have hm:(bif c.plain then some [c]else none)=some m:=hm
      cases hb:c.plain with
      |false=>rw [hb]at hm;cases hm
      |true=>rw [hb]at hm;cases hm;rfl
    |succ k=>exact Dx ys n hn k (by simpa using hk)
   ·cases h
  ·rename_i c
   split at h
   ·rename_i m n hm hn
    cases h;cases k with
    |zero=>
     left;refine⟨rfl,c.map (Cl.v s.r),rfl,?_⟩;have hm:(bif c.all Cl.plain then some c else none)=some m:=hm;cases hb:c.all Cl.plain with
     |false=>rw [hb]at hm;cases hm
     |true=>rw [hb]at hm;cases hm;simp
    |succ k=>exact Dx ys n hn k (by simpa using hk)
   ·cases h
  ·cases h
theorem XH(b:Bool): ∀ (rs:List (Bool×Nat×Ty)) (ls:List (Bool×List Cl)) (l:List Cl) (z:(RT rs).T) (vl:List V),Pv b rs ls l=some z->vl.length=ls.length->
  (∀k,k<ls.length->((ls.getD k (false,[])).1=true/\(∃m,vl.getD k .dead=Ai m/\m.length=(ls.getD k (false,[])).2.length))\/((ls.getD k (false,[])).1=false/\(∀t n f,vl.getD k .dead≠.many t n f)/\(ls.getD k (false,[])).2.length=1))->
  C5 (Bc vl (l.map Cl.v0)) (Qz b rs z):=by
 -- one result
 have one: ∀ (p:Bool×Nat×Ty) (q:Bool×List Cl) (l:List Cl) (x:p.2.2.T) (v:V) (vs:List V) (rest:List V),p.1=q.1->(p.1=true\/p.2.2.one=true)->l.length=q.2.length->Kk b p l=some x->
   ((q.1=true/\(∃m,v=Ai m/\m.length=q.2.length))\/(q.1=false/\(∀t n f,v≠.many t n f)/\q.2.length=1))->∃v',Bc (v::vs) (l.map Cl.v0++rest)=v'::Bc vs rest/\Sub v' (WX b p x):=by
  intro p q l x v vs rest h1 h2 hl hx hk;unfold Kk at hx;unfold WX;cases hbp:b|| !isP p with
  |false=>
   rw [hbp]at hx;simp only [cond_false]at hx;split at hx
   case h_2=>cases hx
   have hp1:p.1=false:=by
    rw [Bool.or_eq_false_iff,Bool.not_eq_false']at hbp;have:=hbp.2;unfold isP at this;rw [bAE,Bool.not_eq_true']at this;exact this.1
   rcases hk with⟨hq,_⟩|⟨_,hv,_⟩
   ·rw [<-h1,hp1]at hq;cases hq
   ·refine⟨.c (.pointer none),?_,Sub.refl _⟩
    show Bc (v::vs) (.c (.pointer none)::rest)=_;cases v with
    |many t n f=>exact absurd rfl (hv _ _ _)
    |_=>rfl
  |true=>
  rw [hbp]at hx;simp only [cond_true]at hx⊢;obtain⟨g1,g2⟩:=VC hx [];rw [g2]at g1;rcases hk with⟨hq,m,rfl,hm⟩|⟨hq,hv,hq1⟩
  ·refine⟨Ai (l.map Cl.v0),?_,?_⟩
   ·show Ai ((l.map Cl.v0++rest).take m.length)::Bc vs ((l.map Cl.v0++rest).drop m.length)=_
    have e:(l.map Cl.v0).length=m.length:=by rw [List.length_map,hl,hm]
    rw [<-e,List.take_left,List.drop_left]
   ·rw [h1,hq];exact g1.mk
  ·have hp:p.1=false:=by rw [h1,hq]
   have ho:p.2.2.one=true:=by rcases h2 with h|h;rw [hp]at h;cases h;exact h
   rw [BU ho]at g1
   match l,hl with
   | [y],_=>
    refine⟨y.v0,?_,?_⟩
    ·show Bc (v::vs) (y.v0::rest)=_
     cases v with
     |many t n f=>exact absurd rfl (hv _ _ _)
     |_=>rfl
    ·rw [hp];exact g1.1
   | [],hl=>rw [hq1]at hl;cases hl
   |_::_::_,hl=>rw [hq1]at hl;simp at hl
 intro rs
 induction rs with
 |nil=>
  intro ls l z vl h hl hk;cases ls with
  |nil=>cases l with
   |nil=>cases vl with
    |nil=>trivial
    |cons=>simp at hl
   |cons=>cases h
  |cons=>cases h
 |cons p rs ih=>
  intro ls l z vl h hl hk;cases rs with
  |nil=>
   cases ls with
   |nil=>cases h
   |cons q ls=>cases ls with
    |cons=>cases h
    |nil=>
     have h:(bif p.1==q.1&&(p.1||p.2.2.one)&&Nat.beq l.length q.2.length then Kk b p l else none)=some z:=h;cases hb:(p.1==q.1&&(p.1||p.2.2.one)&&Nat.beq l.length q.2.length)with
     |false=>rw [hb]at h;cases h
     |true=>
      rw [hb]at h;simp only [bAE,beq_iff_eq,Bool.or_eq_true]at hb;cases vl with
      |nil=>simp at hl
      |cons v vl=>cases vl with
       |cons=>simp at hl
       |nil=>
        obtain⟨v',e,hs⟩:=one p q l z v [] [] hb.1.1 hb.1.2 (bqE hb.2) h (hk 0 (by simp))
        rw [List.append_nil]at e;rw [e];exact⟨hs,trivial⟩
  |cons p' rs=>
   cases ls with
   |nil=>cases h
   |cons q ls=>cases ls with
    |nil=>cases h
    |cons q' ls=>
     have h:(bif p.1==q.1&&(p.1||p.2.2.one)&&Nat.ble q.2.length l.length then(match Kk b p (l.take q.2.length)with
      |some x=>match Pv b (p'::rs) (q'::ls) (l.drop q.2.length)with
       |some z=>some (x,z)
       |none=>none
      |none=>none)else none:Option (RT (p::p'::rs)).T)=some z:=h
     cases hb:(p.1==q.1&&(p.1||p.2.2.one)&&Nat.ble q.2.length l.length)with
     |false=>rw [hb]at h;cases h
     |true=>
      rw [hb]at h;simp only [bAE,beq_iff_eq,Bool.or_eq_true]at hb;simp only [cond_true]at h;split at h
      case h_2=>cases h
      rename_i x hx;split at h
      case h_2=>cases h
      rename_i z2 hz2;cases h;cases vl with
      |nil=>simp at hl
      |cons v vl=>
       have hlen:(l.take q.2.length).length=q.2.length:=by
        have:=blE hb.2;rw [List.length_take];omega
       obtain⟨v',e,hs⟩:=one p q (l.take q.2.length) x v vl ((l.drop q.2.length).map Cl.v0) hb.1.1 hb.1.2 hlen hx (hk 0 (by simp))
       rw [<-List.map_append,List.take_append_drop]at e;rw [e];refine⟨hs,ih (q'::ls) (l.drop q.2.length) z2 vl hz2 (by simpa using hl) fun k hk'=>?_⟩
       have:=hk (k+1) (by simpa using hk')
       simpa using this
theorem Vd{P:Program}{Θ:Tab}(hΘ:Θ.OK P){s:St}{K:List V->Prop}: ∀ (rv:List ResultVar) (ys:List Sl) (acc:List V),Xw Θ s rv=some ys->K (acc++ys.map (Sl.v s.r))->QB P s.den rv acc K
 | [],ys,acc,h,hK=>by cases h;show K acc;simpa using hK
 |v::rv,ys,acc,h,hK=>by
  unfold Xw at h;split at h
  case h_2=>cases h
  rename_i y hy;split at h
  case h_2=>cases h
  rename_i m hm;cases h;have hrest:QB P s.den rv (acc++ [y.v s.r]) K:=Vd hΘ rv m _ hm (by simpa using hK)
  cases v with
  |tmp t=>
   cases hy;exact hrest
  |cell a t=>
   unfold retV1 at hy;simp only at hy;split at hy
   ·rename_i y' hl
    cases hy;show Hj (tyI P t) s.den.σ (s.den.t a) fun v=>QB P s.den rv (acc++ [v]) K
    exact Kc (Pb hΘ hl trivial) fun r0 hr=>by rw [hr];exact hrest
   ·cases hy
theorem Ph{P:Program}{Θ:Tab}(hΘ:Θ.OK P){s:St}{rv:List ResultVar}{rs:List (Bool×Nat×Ty)}{b:Bool}{z:(RT rs).T}(h:AaW b Θ rv rs s=some z):QB P s.den rv [] (WQ s.den.σ (Io b rs z)):=by
 unfold AaW at h;split at h
 case h_2=>cases h
 rename_i ys hys;split at h
 case h_2=>cases h
 rename_i ls hls;split at h
 case h_2=>cases h
 rename_i m hm;cases hd:NA (CG (ls.flatMap (·.2)))with
 |false=>rw [hd]at h;cases h
 |true=>
  rw [hd]at h;simp only [cond_true]at h;refine Vd hΘ rv ys [] hys ?_;rw [List.nil_append];obtain⟨h1,h2,h3,h4⟩:=ND (s:=s) ys ls hls;refine⟨h1,?_⟩;rw [h2];have htk:=tkL_v s.r (ls.flatMap (·.2)) m ((ls.flatMap (·.2)).map (Cl.v s.r)).length s.den.σ (by simp) h3 hm hd fun id p hmem=>?_
  ·rw [htk]
   have hsub:=XH b rs ls m z (ys.map (Sl.v s.r)) h (by rw [List.length_map,h4]) fun k hk=>?_
   ·-- Kj
    have hp: ∀ {a b:List V},C5 a b->Sub (LA a) (LA b):=by
     intro a b hab
     match a,b,hab with
     | [],[],_=>exact Sub.refl _
     | [x],[y],hab=>exact hab.1
     |x::x'::a,y::y'::b,hab=>
      show Sub (CP _) (CP _);unfold CP;rw [hab.len];exact⟨_,rfl,fun k _=>hab.getD k⟩
     | [],_::_,hab=>exact hab.elim
     |_::_,[],hab=>exact hab.elim
     | [_],_::_::_,hab=>exact hab.2.elim
     |_::_::_,[_],hab=>exact hab.2.elim
    exact hp hsub
   ·have:=Dx (s:=s) ys ls hls k hk
    have e:(ys.map (Sl.v s.r)).getD k .dead=(ys.getD k (.one .dead)).v s.r:=Aw (f:=Sl.v s.r) (a:=.one .dead) rfl ys k;rw [e];exact this
  ·have key: ∀ (l l':List Cl),Mw s.r l=some l'->(id,p)∈CG l->Af s.r id p≠.dead:=by
    intro l
    induction l with
    |nil=>intro l' _ h;cases h
    |cons y l ih=>
     intro l' hl hm;unfold Mw at hl;split at hl
     case h_2=>cases hl
     rename_i z1 hz1;split at hl
     case h_2=>cases hl
     rename_i l2 hl2;cases y with
     |rf id' q=>
      rcases List.mem_cons.1 hm with h|h
      ·cases h
       intro hx
       have hz1:(match Af s.r id p with
        | .arr _ t d xs=>some (Cl.c (.sl t) (d+1) xs)
        |_=>none)=some z1:=hz1
       rw [hx]at hz1;cases hz1
      ·exact ih l2 hl2 h
     |_=>exact ih l2 hl2 hm
   have hne:=key _ _ hm hmem;refine⟨AL hne,?_⟩;show id<(s.r.map Ae.v).length;rw [List.length_map];rcases Nat.lt_or_ge id s.r.length with h|h
   ·exact h
   ·exfalso
    apply hne;unfold Af;rw [gDE,List.getElem?_eq_none h];exact Cp p
theorem pS_v(b:Bool)(t:Ty)(x:t.T):(pS b t x).v []=vOf b t 0 x:=by
 unfold pS vOf;cases b with
 |true=>show Ai ((Au t 0 x).map (Cl.v []))=_;rw [Cl.v_c];rfl
 |false=>rfl
theorem WF: ∀ (l:List (Bool×Ty)) (x:(PT l).T),(Aa5 l x).map (Sl.v [])=DJ l x
 | [],x=>rfl
 | [p],x=>congrArg (fun v=>[v]) (pS_v p.1 p.2 x)
 |p::q::l,x=>by
  show(pS p.1 p.2 x.1).v []::(Aa5 (q::l) x.2).map (Sl.v [])=vOf p.1 p.2 0 x.1::DJ (q::l) x.2;rw [WF (q::l) x.2,pS_v]
theorem JB: ∀ (l:List (Bool×Ty)) (x:(PT l).T),(DJ l x).length=l.length
 | [],_=>rfl
 | [_],_=>rfl
 |_::q::l,x=>by show(DJ (q::l) x.2).length+1=_;rw [JB];rfl
theorem Yu{P:Program}{E:AA}{f:FuncId}{fn:Func}{body:Code}{S:Sig}(hE:EOK P E.toEnv)(hm:P.follows .mixedOrders=true)(hf:P.funcs[f]? =some fn)(hb:fn.body=some body)(hn:max S.ps.length fn.ntmps=E.h.n):
  FT P f S (tfun E body fn.results.toList S):=by
 intro x y hxy;refine FC_of (h:=E.h) hf hb (by rw [JB];exact hn) fun _ C a w Q hCm hs hQ=>?_
 have e:(HM S.ps x).den=⟨fun i=>(DJ S.ps x).getD i .dead,[]⟩:=by
  show Ms.mk (fun i=>((Aa5 S.ps x).getD i (.one .dead)).v []) []=_
  congr 1
  funext i
  rw [<-WF S.ps x,Aw (f:=Sl.v []) (a:=.one .dead) rfl]
 rw [<-e]at hs;rw [<-Lt]at hQ;refine O8 hE hm (by rw [hCm];exact Nat.zero_le _) body (HM S.ps x) _ y Q a w hs hxy fun e s' a' w' _ hs' hz=>?_
 cases e with
 |normal=>exact hQ .normal s'.den a' w' (Ph hE.Θ hz) hs'
 |ret=>exact hQ .ret s'.den a' w' (Ph hE.Θ hz) hs'
 |exit id=>cases hz
 |goto l=>cases hz
 |panic ch=>cases hz
 |outgrown=>cases hz
noncomputable def tfunN(E:AA)(body:Code)(rv:List ResultVar)(S:Sig)(x:(PT S.ps).T):Option (Bool×(RT S.rs).T):=Zo E body (HM S.ps x) (retKN E.Θ rv S.rs)
theorem YE{P:Program}{Θ:Tab}(hΘ:Θ.OK P){s:St}{rv:List ResultVar}{rs:List (Bool×Nat×Ty)}{b:Bool}{z:(RT rs).T}(h:retN Θ rv rs s=some (b,z)):QB P s.den rv [] (WQ s.den.σ (Io b rs z)):=by
 unfold retN at h;split at h
 ·rename_i u hu;cases h;exact Ph hΘ hu
 ·split at h
  ·rename_i u hu;cases h;exact Ph hΘ hu
  ·cases h
theorem WT{P:Program}{E:AA}{f:FuncId}{fn:Func}{body:Code}{S:Sig}(hE:EOK P E.toEnv)(hm:P.follows .mixedOrders=true)(hf:P.funcs[f]? =some fn)(hb:fn.body=some body)(hn:max S.ps.length fn.ntmps=E.h.n):
  FTN P f S (tfunN E body fn.results.toList S):=by
 intro x b y hxy;refine FC_of (h:=E.h) hf hb (by rw [JB];exact hn) fun _ C a w Q hCm hs hQ=>?_
 have e:(HM S.ps x).den=⟨fun i=>(DJ S.ps x).getD i .dead,[]⟩:=by
  show Ms.mk (fun i=>((Aa5 S.ps x).getD i (.one .dead)).v []) []=_
  congr 1
  funext i
  rw [<-WF S.ps x,Aw (f:=Sl.v []) (a:=.one .dead) rfl]
 rw [<-e]at hs;refine O8 hE hm (by rw [hCm];exact Nat.zero_le _) body (HM S.ps x) _ (b,y) Q a w hs hxy fun e s' a' w' _ hs' hz=>?_
 cases e with
 |normal=>exact hQ .normal s'.den a' w' (YE hE.Θ hz) hs'
 |ret=>exact hQ .ret s'.den a' w' (YE hE.Θ hz) hs'
 |exit id=>cases hz
 |goto l=>cases hz
 |panic ch=>cases hz
 |outgrown=>cases hz
end Go.Ve

