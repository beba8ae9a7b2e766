/- The typed machine: a slice's literal whose elements hold slices of the call's own. -/
import Derived.Test.YtbbhfpbalccohaaGreatTua
namespace Go.Ve
theorem AaD(d:Nat)(r:List Ae)(c:Cl):(fit d c).v r=c.v r/\(fit d c).v0=c.v0:=by
 cases c with
 |c t d' x=>
  have e:fit d (.c t d' x)=bif Nat.beq (Us d' t.dep) (Us d t.dep)then .c t d x else .c t d' x:=rfl;rw [e];cases h:Nat.beq (Us d' t.dep) (Us d t.dep)with
  |false=>exact⟨rfl,rfl⟩
  |true=>
   have:=bqE h;rw [LV,LV]at this;exact⟨(Jx (x:=x) this).symm,(Jx (x:=x) this).symm⟩
 |_=>exact⟨rfl,rfl⟩
def La(r:List Ae):List Cl->Option (List Cl×List (Option Nat))
 | []=>some ([],[])
 | .rf id []::l=>match r.getD id .dead with
  | .arr false t d xs=>match La r l with
   |some (m,js)=>some (.c (.sl t) (d+1) xs::m,some id::js)
   |none=>none
  |_=>none
 |y::l=>bif y.imm then(match La r l with
   |some (m,js)=>some (y::m,none::js)
   |none=>none)else none
def apO:List (Option Nat)->Bool
 | []=>true
 |none::l=>apO l
 |some a::l=>l.all (fun b=>match b with
  |some b=>!Nat.beq a b
  |none=>true)&&apO l
def Q6:List (Option Nat)->List Nat
 | []=>[]
 |none::l=>Q6 l
 |some a::l=>a::Q6 l
def tBSM(s:St)(n:Nat)(ps:List (Nat×Option Sl)):Option TI->Option LR
 |some j=>bif Nat.blt 0 j.ty.w&&Nat.ble (n*j.ty.w) 16777216 then(match Qq (fun i=>some (i*j.ty.w,j.ty.w)) (ZQ n (D6 j.ty)) ps with
   |some l=>match La s.r l with
    |some (m,js)=>bif apO js then(match Q6 js with
     | []=>none
     |_::_=>match Nb j.ty j.sd n (m.map (fit j.sd))with
      |some xs=>some ⟨True,inferInstance,Q6 js,.c (.sl j.ty) (j.sd+1) xs⟩
      |none=>none)else none
    |none=>none
   |none=>none)
  else none
 |none=>none
theorem WK: ∀ {l:List (Option Nat)},apO l=true->∀i k a,i<l.length->k<l.length->i≠k->l.getD i none=some a->l.getD k none≠some a
 |none::l,h,i,k,a,hi,hk,hne,h1=>by
  cases i with
  |zero=>cases h1
  |succ i=>cases k with
   |zero=>intro h2;cases h2
   |succ k=>exact WK (l:=l) h i k a (by simpa using hi) (by simpa using hk) (by omega) (by simpa using h1)
 |some b::l,h,i,k,a,hi,hk,hne,h1=>by
  simp only [apO,bAE]at h;have key: ∀k,k<l.length->l.getD k none≠some b:=by
   intro k hk h2;have h3:=aET.1 h.1 (l.getD k none) (by simp [hk])
   rw [h2]at h3;simp [Nat.beq_refl]at h3
  cases i with
  |zero=>
   cases h1;cases k with
   |zero=>omega
   |succ k=>simpa using key k (by simpa using hk)
  |succ i=>cases k with
   |zero=>
    intro h2;cases h2;exact key i (by simpa using hi) (by simpa using h1)
   |succ k=>exact WK (l:=l) h.2 i k a (by simpa using hi) (by simpa using hk) (by omega) (by simpa using h1)
 | [],_,_,_,_,hi,_,_,_=>by simp at hi
theorem L1: ∀ {l:List (Option Nat)} {k a:Nat},k<l.length->l.getD k none=some a->a∈Q6 l
 |none::l,k,a,hk,h=>by
  cases k with
  |zero=>cases h
  |succ k=>exact L1 (l:=l) (k:=k) (by simpa using hk) (by simpa using h)
 |some b::l,k,a,hk,h=>by
  cases k with
  |zero=>cases h;exact List.mem_cons_self ..
  |succ k=>exact mCM _ (L1 (l:=l) (k:=k) (by simpa using hk) (by simpa using h))
 | [],_,_,hk,_=>by simp at hk
def ownF(F:Nat->Nat->Prop):Option Nat->Nat->Prop
 |some j=>F j
 |none=>noF
structure Zg(s:St)(w:World)(D:Nat->Prop)(F:Nat->Nat->Prop)(l m:List Cl)(js:List (Option Nat))(cvs:List Value):Prop where
 ml:m.length=l.length
 jl:js.length=l.length
 ro: ∀j∈Q6 js,j<s.r.length/\(s.r.getD j .dead).ro=false
 rel: ∀k,k<l.length->Rel D w noR ((m.map Cl.v0).getD k .dead) (cvs.getD k undef) (ownF F (js.getD k none))
theorem K9{s:St}{w:World}{D:Nat->Prop}{ρ:Nat->Value}{F:Nat->Nat->Prop}(wr:Bk (s.r.map Ae.v) w D ρ F): ∀ (l m:List Cl) (js:List (Option Nat)) (cvs:List Value),La s.r l=some (m,js)->cvs.length=l.length->
  (∀k,k<l.length->Rel D w (An (s.r.map Ae.v) ρ w) ((l.map (Cl.v s.r)).getD k .dead) (cvs.getD k undef) noF)->Zg s w D F l m js cvs
 | [],m,js,cvs,h,_,_=>by
  cases h;exact⟨rfl,rfl,fun j hj=>(by cases hj),fun k hk=>by simp at hk⟩
 |y::l,m,js,cvs,h,hl,hr=>by
  cases cvs with
  |nil=>simp at hl
  |cons cv cvs=>
  have h0:Rel D w (An (s.r.map Ae.v) ρ w) (y.v s.r) cv noF:=by simpa using hr 0 (by simp)
  have hrest: ∀k,k<l.length->Rel D w (An (s.r.map Ae.v) ρ w) ((l.map (Cl.v s.r)).getD k .dead) (cvs.getD k undef) noF:=fun k hk=>by simpa using hr (k+1) (by simpa using hk)
  have imm:y.imm=true->∀m' js',La s.r l=some (m',js')->Zg s w D F (y::l) (y::m') (none::js') (cv::cvs):=fun himm m' js' h1=>by
   obtain⟨g1,g2,g3,g4⟩:=K9 wr l m' js' cvs h1 (by simpa using hl) hrest
   refine⟨by simp [g1],by simp [g2],g3,fun k hk=>?_⟩
   cases k with
   |zero=>
    obtain⟨i1,i2⟩:=OB (r:=s.r) himm;show Rel D w noR y.v0 cv noF;rw [<-i2];exact Co i1 h0
   |succ k=>simpa using g4 k (by simpa using hk)
  unfold La at h;split at h
  ·rename_i he;cases he
  ·rename_i id l' he
   cases he;split at h
   case h_2=>cases h
   rename_i t d xs hroot;split at h
   case h_2=>cases h
   rename_i m' js' h1;cases h;obtain⟨g1,g2,g3,g4⟩:=K9 wr l m' js' cvs h1 (by simpa using hl) hrest
   have hlen:(Af s.r id []).len=xs.length:=by
    show(s.r.getD id .dead).len=_;rw [hroot];rfl
   have h0:Rel D w (An (s.r.map Ae.v) ρ w) (.rs id [] 0 (Af s.r id []).len) cv noF:=h0;rw [hlen]at h0
   have hσ:(s.r.map Ae.v).getD id .dead= .nd true true t.w xs.length (fun i k=>(tyV t d (xs.getD i t.dflt)).getD k .dead):=by
    rw [AK,hroot];rfl
   obtain⟨_,hrr⟩:=Pg wr hσ h0.1;have hid:id<s.r.length:=by simpa using h0.1.1
   refine⟨by simp [g1],by simp [g2],fun j hj=>?_,fun k hk=>?_⟩
   ·rcases List.mem_cons.1 hj with rfl|hj
    ·exact⟨hid,by rw [hroot];rfl⟩
    ·exact g3 j hj
   ·cases k with
    |zero=>exact hrr
    |succ k=>simpa using g4 k (by simpa using hk)
  ·rename_i y' l' hne he
   cases he;cases hi:y.imm with
   |false=>rw [hi]at h;cases h
   |true=>
    rw [hi]at h;simp only [cond_true]at h;split at h
    case h_2=>cases h
    rename_i m' js' h1;cases h;exact imm hi m' js' h1
theorem Zx{P:Program}{Θ:Tab}(hΘ:Θ.OK P){C:Ctx}{h:D5}{s s':St}{o:Oper}{t:TypeId}{n:Nat}{ps:Array (Nat×Operand)}{a:Act}{w:World}{A:LR}{d:Nat}{next:Act->World->Prop}{Q:Exit->Act->World->Prop}
  (ho:o.op= .buildSlice t n ps) (hdst:o.dst=some d) (hfz:h.fz.contains d=false) (ha:tBSM s n (ps.toList.map fun p=>(p.1,s.ev p.2)) (((Θ.look t).bind (·.elem)).bind Θ.look)=some A) (hp:(Bq A.js s).put h (some d) (.one A.y)=some s')
  (hs:AT C h.n s.den a w) (hn: ∀a' w',AT C h.n s'.den a' w'->next a' w'):o.wp P a w next Q:=by
 obtain⟨hdf,hdd,D,ρ,F,hcr⟩:=hs;unfold tBSM at ha;split at ha
 case h_2=>cases ha
 rename_i j hj;obtain⟨e,hsl,_⟩:=Dv hΘ hj;cases hb:(Nat.blt 0 j.ty.w&&Nat.ble (n*j.ty.w) 16777216)with
 |false=>rw [hb]at ha;cases ha
 |true=>
 rw [hb]at ha;simp only [cond_true]at ha;simp only [bAE]at hb;have hw:=P5 hb.1;have hnw:=blE hb.2;split at ha
 case h_2=>cases ha
 rename_i l hl;split at ha
 case h_2=>cases ha
 rename_i m js hm;cases hap:apO js with
 |false=>rw [hap]at ha;cases ha
 |true=>
 rw [hap]at ha;simp only [cond_true]at ha;split at ha
 ·cases ha
 rename_i j0 jr hjs;split at ha
 case h_2=>cases ha
 rename_i xs hxs;cases ha;obtain⟨h1,h2⟩:=Ld _ _ _ hl;rw [Vj s.r j.ty n hw]at h2
 have hparts:K3 s.den.σ w D ρ F (ps.toList.map fun p=>(p.1,s.den.ev p.2)) (ps.toList.map fun p=>(p.1,a.eval p.2)):=by
  refine⟨by simp,fun k i v hk=>?_⟩
  simp only [List.getElem?_map]at hk⊢;cases hq:ps.toList[k]? with
  |none=>simp [hq]at hk
  |some q=>
   simp only [hq,Option.map_some,Option.some.injEq,Prod.mk.injEq]at hk⊢;obtain⟨rfl,rfl⟩:=hk;exact⟨_,⟨rfl,rfl⟩,noF,B9 hcr hdd q.2,fun _ h=>h.elim,fun _ _ _ h=>h⟩
 obtain⟨cs',hrun,hrel,hll⟩:=bs_run (P:=P) ho hparts hsl h1 hw hnw h2;have hlen:l.length=n*j.ty.w:=by simpa using hll
 obtain⟨g1,g2,g3,g4⟩:=K9 hcr.wr l m js cs'.toList hm (by have:=hrel.1;simp at this;simpa using this) (fun k hk=>by
  have:=hrel.2 k (by simpa using hk)
  simpa [St.den]using this)
 obtain⟨p1,p2,p3⟩:=Of s.r n _ xs hxs
 have hfitv: ∀k,((m.map (fit j.sd)).map (Cl.v s.r)).getD k .dead=(m.map Cl.v0).getD k .dead:=by
  intro k;rw [p2,List.map_map]
  congr 1
  exact List.map_congr_left fun y _=>(AaD _ s.r y).2
 let Fy:Nat->Nat->Nat->Prop:=fun i k=>ownF F (js.getD (i*j.ty.w+k) none)
 have hFy: ∀i k b,Fy i k b->∃q,js.getD (i*j.ty.w+k) none=some q/\F q b:=by
  intro i k b hb;simp only [Fy]at hb;cases hq:js.getD (i*j.ty.w+k) none with
  |none=>rw [hq]at hb;exact hb.elim
  |some q=>rw [hq]at hb;exact⟨q,rfl,hb⟩
 have hcell: ∀i k,i<n->k<j.ty.w->i*j.ty.w+k<l.length:=fun i k hi hk=>by rw [hlen];exact PO hi hk
 have hG: ∀i k b,i<n->k<j.ty.w->Fy i k b->∃q∈Q6 js,F q b:=by
  intro i k b hi hk hb;obtain⟨q,hq,hb⟩:=hFy i k b hb;exact⟨q,L1 (by rw [g2];exact hcell i k hi hk) hq,hb⟩
 have hblk:(w.alloc (.cells cs' e)).heap[w.heap.size]? =some (.cells cs' e (0,0)):=heap_alloc_new w _;have hsame: ∀b,b<w.heap.size->(w.alloc (.cells cs' e)).heap[b]? =w.heap[b]?:=fun b hb=>Below.heap_alloc _ _ _ hb
 have hsz:cs'.size=n*j.ty.w:=by rw [hrel.1];exact hll
 have hr:Rel D (w.alloc (.cells cs' e)) noR (.nd true true j.ty.w n fun i k=>(m.map Cl.v0).getD (i*j.ty.w+k) .dead) (.slice (some ⟨w.heap.size,0,none⟩) n n) (fun b=>b=w.heap.size\/∃i k,i<n/\k<j.ty.w/\Fy i k b):=by
  refine .inr ⟨w.heap.size,0,n,Fy,rfl,Nat.le_refl _,?_,(fun h=>by cases h),fun i k hi hk=>?_,(fun h=>by cases h),fun _=>⟨⟨cs',e,.plain hblk,by rw [hsz,Nat.zero_add];exact Nat.le_refl _⟩,fun i k hi hk hF=>?_,fun i k i' k' b hi hk hi' hk' hne hF hF'=>?_,fun _=>Iff.rfl⟩⟩
  ·have:=Nat.le_mul_of_pos_right n hw;unfold maxLen;omega
  ·have hlt:=hcell i k hi hk
   refine⟨cs'.getD (i*j.ty.w+k) undef,?_,?_⟩
   ·rw [cellRow hblk,Nat.zero_add]
    have:i*j.ty.w+k<cs'.size:=by rw [hsz,<-hlen];exact hlt
    simp [this]
   ·have h5:=g4 _ hlt
    have h6:Rel D w noR ((m.map Cl.v0).getD (i*j.ty.w+k) .dead) (cs'.getD (i*j.ty.w+k) undef) (Fy i k):=by
     show Rel D w noR _ _ (ownF F (js.getD (i*j.ty.w+k) none));simpa using h5
    refine Rel.mono (fun _ h=>h) (fun _ _ h=>h) _ _ _ (fun b hb=>hsame b ?_) h6
    rcases hb with hb|hb
    ·exact hcr.wr.Dlt b hb
    ·exact Rel.lt _ _ _ h6 b hb
  ·obtain⟨q,_,hq⟩:=hG i k _ hi hk hF
   have:=hcr.wr.lt q _ hq;omega
  ·obtain⟨q,hq,hF⟩:=hFy i k b hF
   obtain⟨q',hq',hF'⟩:=hFy i' k' b hF';have hne2:i*j.ty.w+k≠i'*j.ty.w+k':=by
    intro he;have e1:=congrArg (· /j.ty.w) he
    have e2:=congrArg (· % j.ty.w) he
    simp only [Jm hk,Jm hk',Jl hk,Jl hk']at e1 e2;omega
   have:=WK hap _ _ q (by rw [g2];exact hcell i k hi hk) (by rw [g2];exact hcell i' k' hi' hk') hne2 hq
   exact hcr.wr.disj q q' b (fun e=>this (by rw [hq',e])) hF hF'
 obtain⟨F',hcr',hF'⟩:=HB (Q6 js) hcr (fun q hq=>(g3 q hq).1)
 have hr2:Rel D (w.alloc (.cells cs' e)) noR (cV (.sl j.ty) (j.sd+1) xs) (.slice (some ⟨w.heap.size,0,none⟩) n n) (fun b=>b=w.heap.size\/∃i k,i<n/\k<j.ty.w/\Fy i k b):=by
  refine Rel.sub ?_ hr;show Sub _ (V.nd true true j.ty.w xs.length fun i k=>(tyV j.ty j.sd (xs.getD i j.ty.dflt)).getD k .dead)
  rw [p1];refine⟨_,rfl,fun i k hi hk=>?_⟩
  have:=p3 i k hi hk;rw [hfitv]at this;exact this
 have hfpG: ∀b,(b=w.heap.size\/∃i k,i<n/\k<j.ty.w/\Fy i k b)->(∃q∈Q6 js,F q b)\/w.heap.size<=b:=by
  rintro b (rfl|⟨i,k,hi,hk,hF⟩)
  ·exact .inr (Nat.le_refl _)
  ·exact .inl (hG i k b hi hk hF)
 have hc:=CR.own hcr' (w':=w.alloc (.cells cs' e)) (G:=fun b=>∃q∈Q6 js,F q b) (D':=D) (fun i b hb ⟨q,hq,hFq⟩=>by
   obtain⟨h1,h2⟩:=hF' i b hb;exact hcr.wr.disj i q b (fun e=>h2 (e▸hq)) h1 hFq) (fun b hb ⟨q,_,hFq⟩=>hcr.wr.dD q b hFq hb) (fun b ⟨q,_,hFq⟩=>hcr.Fn q b hFq) rfl rfl rfl (Nat.le_refl _) (by simp) (fun c hc _=>hsame c hc) hr2 hfpG
  (fun _ h=>h) (fun _ h=>.inl h) (fun b hb=>⟨by have:=hcr.wr.Dlt b hb;simp;omega,fun h=>by
   rcases hfpG b h with⟨q,_,hFq⟩|h2
   ·exact hcr.wr.dD q b hFq hb
   ·have:=hcr.wr.Dlt b hb;omega⟩) d
 have hs':=VF (h:=h) hdf (Dw (Q6 js) hdd) hfz hp hc;unfold Oper.wp;rw [hrun];show next (a.put o.dst _) _
 rw [hdst];exact hn _ _ hs'
end Go.Ve

