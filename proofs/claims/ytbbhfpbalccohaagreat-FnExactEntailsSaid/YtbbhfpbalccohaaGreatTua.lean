/- The typed machine: a call of a function that writes its owned arguments, in memory. -/
import Derived.Test.YtbbhfpbalccohaaGreatTu
namespace Go.Ve
section
variable {s:St} {ρ:Nat->Value} {w:World} {D:Nat->Prop} {F:Nat->Nat->Prop}
theorem Mo(wr:Bk (s.r.map Ae.v) w D ρ F){a:Act}: ∀ (ps:List WP) (xs:List Operand) (z:(PTW ps).T) (LD:List (CE×Nat)),OV s ps (xs.map s.ev)=some (z,LD)->(∀x∈xs,Rel D w (An (s.r.map Ae.v) ρ w) (s.den.ev x) (a.eval x) noF)->∀m,
  (BE ps z m).1.length=xs.length/\WOK s (s.r.map Ae.v) ρ w LD (BE ps z m).2/\
   ∀ (R0:List Ae) σ0 ρ0,Has R0 m (BE ps z m).2->W9 s (s.r.map Ae.v) ρ w LD m σ0 ρ0->∀i,i<xs.length->Rel D w (An σ0 ρ0 w) (((BE ps z m).1.getD i (.one .dead)).v R0) (a.eval (xs.getD i (.tmp 0))) noF
 | [],[],z,LD,h,_,m=>by
  cases h;exact⟨rfl,⟨rfl,fun k hk=>by simp at hk,fun a ha=>by cases ha⟩,fun _ _ _ _ _ i hi=>by simp at hi⟩
 | [p],[x],z,LD,h,hr,m=>by
  have h:Qa s p (s.ev x)=some (z,LD):=h;cases hy:s.ev x with
  |none=>rw [hy]at h;cases h
  |some y=>
   rw [hy]at h;have h0:=hr x (by simp)
   rw [A3 hy]at h0;obtain⟨g1,g2⟩:=OW wr h h0 m;refine⟨rfl,g1,fun R0 σ0 ρ0 hR hW i hi=>?_⟩
   obtain rfl:i=0:=by simp at hi;exact hi
   exact g2 R0 σ0 ρ0 hR hW
 |p::q::l,x::xs,z,LD,h,hr,m=>by
  have h:(match Qa s p (s.ev x)with
   |some (x,a)=>match OV s (q::l) (xs.map s.ev)with
    |some (z,b)=>some ((x,z),a++b)
    |none=>none
   |none=>none:Option ((PTW (p::q::l)).T×List (CE×Nat)))=some (z,LD):=h
  split at h
  case h_2=>cases h
  rename_i x1 a1 h1;split at h
  case h_2=>cases h
  rename_i z1 b1 h2;cases h;cases hy:s.ev x with
  |none=>rw [hy]at h1;cases h1
  |some y=>
   rw [hy]at h1;have h0:=hr x (by simp)
   rw [A3 hy]at h0;obtain⟨g1,g2⟩:=OW wr h1 h0 m;obtain⟨k1,k2,k3⟩:=Mo wr (q::l) xs z1 b1 h2 (fun y hy=>hr y (mCM _ hy)) (m+(Qb p x1 m).2.length)
   refine⟨by show(BE (q::l) z1 _).1.length+1=_;rw [k1];rfl,g1.app k2,fun R0 σ0 ρ0 hR hW i hi=>?_⟩
   have hR:Has R0 m ((Qb p x1 m).2++(BE (q::l) z1 (m+(Qb p x1 m).2.length)).2):=hR;cases i with
   |zero=>exact g2 R0 σ0 ρ0 hR.left hW.left
   |succ i=>
    have hW2:=hW.right;rw [<-g1.len]at hW2;exact k3 R0 σ0 ρ0 hR.right hW2 i (by simpa using hi)
 | [],_::_,_,_,h,_,_=>by cases h
 | [_],[],_,_,h,_,_=>by cases h
 | [_],_::_::_,_,_,h,_,_=>by cases h
 |_::_::_,[],_,_,h,_,_=>by cases h
end
theorem BR.tyV0{π:Nat->Nat}{n:Nat}: ∀ (t:Ty) (x:t.T),∀v∈tyV t 0 x,BR π n v v
 | .int _,_,v,h=>by simp [tyV]at h;subst h;exact .inr (Sub.refl _)
 | .bool,_,v,h=>by simp [tyV]at h;subst h;exact .inr (Sub.refl _)
 | .str,_,v,h=>by simp [tyV]at h;subst h;exact .inr (Sub.refl _)
 | .sl _,_,v,h=>by simp only [tyV,List.mem_singleton]at h;subst h;exact .inr (Sub.refl _)
 | .ptr _,_,v,h=>by simp only [tyV,List.mem_singleton]at h;subst h;exact .inr (Sub.refl _)
 | .unit,_,v,h=>by simp [tyV]at h
 | .pair a b,x,v,h=>by
  simp only [tyV,List.mem_append]at h;exact h.elim (BR.tyV0 a x.1 v) (BR.tyV0 b x.2 v)
 | .osl _,x,v,h=>by
  simp only [tyV,List.mem_singleton]at h;subst h;cases x with
  |none=>exact BR.dead _ _ _
  |some xs=>exact .inr (Sub.refl _)
 | .clo g t,x,v,h=>by
  simp only [tyV,List.mem_singleton]at h;subst h;refine .inr ⟨_,rfl,fun k hk=>?_⟩
  have hk:k<(tyV t 0 x).length:=by rw [Av];exact hk
  show BR π n ((tyV t 0 x).getD k .dead) ((tyV t 0 x).getD k .dead);rw [gDE,gEE hk];exact BR.tyV0 t x _ (List.getElem_mem hk)
theorem killP_ren{r r':List Ae}{M:V->V}{h:Nat->AP->Bool}{N:Nat}(hM:Cs M (fun id q=>h id q=false))(hN: ∀id q,h id q=false->id<N)(hr: ∀id q,h id q=false->(Af r' id q).len=(Af r id q).len)(y:Cl):BR (fun i=>i) N (M (y.v r)) ((y.killP h).v r'):=by
 cases y with
 |dead=>show BR _ _ (M .dead) .dead;exact BR.dead _ _ _
 |nil=>show BR _ _ (M (.c _)) _;rw [hM.m.c];exact .inr (Sub.refl _)
 |nilp=>show BR _ _ (M (.c _)) _;rw [hM.m.c];exact .inr (Sub.refl _)
 |nilf=>show BR _ _ (M (.c _)) _;rw [hM.m.c];exact .inr (Sub.refl _)
 |c t d x=>
  have e:M (cV t d x)=cV t d x:=by
   cases t with
   |int k=>exact hM.m.c _
   |bool=>exact hM.m.c _
   |str=>exact hM.m.c _
   |sl t=>exact hM.m.nd _ _ _ _ _
   |ptr t=>exact hM.m.nd _ _ _ _ _
   |unit=>exact hM.m.dead
   |clo g u=>exact hM.m.clo
   |osl u=>exact hM.m.osl
   |pair a b=>exact hM.m.dead
  show BR _ _ (M (cV t d x)) (cV t d x);rw [e];cases t<;>first|exact .inr (Sub.refl _)|exact .inl rfl|(cases x<;>first|exact BR.dead _ _ _|exact .inr (Sub.refl _))|exact BR.tyV0 (.clo _ _) x _ (List.mem_singleton.2 rfl)
 |rf id q=>
  show BR _ _ (M (.rs id q 0 _)) ((bif h id q then Cl.dead else .rf id q).v r');cases hb:h id q with
  |true=>exact BR.dead _ _ _
  |false=>
   rw [hM.rs id q _ _ hb];refine .inr ⟨id,hN id q hb,rfl,?_⟩;show V.rs id q 0 (Af r' id q).len=_;rw [hr id q hb]
 |rs id q off len=>
  show BR _ _ (M (.rs id q off len)) ((bif h id q then Cl.dead else .rs id q off len).v r');cases hb:h id q with
  |true=>exact BR.dead _ _ _
  |false=>rw [hM.rs id q _ _ hb];exact .inr ⟨id,hN id q hb,rfl,rfl⟩
 |rp id q i k=>
  show BR _ _ (M (.rp id q i k)) ((bif h id q then Cl.dead else .rp id q i k).v r');cases hb:h id q with
  |true=>exact BR.dead _ _ _
  |false=>rw [hM.rp id q _ _ hb];exact .inr ⟨id,hN id q hb,rfl,rfl⟩
theorem Xy{l:List Cl}{f g:Cl->V}{N:Nat}(hf:f .dead= .dead)(hg:g .dead= .dead)(h: ∀y,BR (fun i=>i) N (f y) (g y))(k:Nat):BR (fun i=>i) N ((l.map f).getD k .dead) ((l.map g).getD k .dead):=by
 rw [Aw (f:=f) (a:=.dead) hf,Aw (f:=g) (a:=.dead) hg];exact h _
theorem Sl.killP_ren{r r':List Ae}{M:V->V}{h:Nat->AP->Bool}{N:Nat}(hM:Cs M (fun id q=>h id q=false))(hN: ∀id q,h id q=false->id<N)(hr: ∀id q,h id q=false->(Af r' id q).len=(Af r id q).len)(y:Sl):BR (fun i=>i) N (M (y.v r)) ((y.killP h).v r'):=by
 have one:=Go.Ve.killP_ren hM hN hr
 have key: ∀ (l:List Cl) (k:Nat),BR (fun i=>i) N (((l.map (Cl.v r)).map M).getD k .dead) (((l.map (Cl.killP h)).map (Cl.v r')).getD k .dead):=by
  intro l k;rw [List.map_map,List.map_map];exact Xy (f:=fun y=>M (y.v r)) (g:=fun y=>(y.killP h).v r') hM.m.dead rfl one k
 cases y with
 |one c=>exact one c
 |new l=>
  show BR _ _ (M (Bj true (l.map Cl.v0))) (Bj true (l.map Cl.v0));rw [show M (Bj true (l.map Cl.v0))=Bj true (l.map Cl.v0)from hM.m.nd _ _ _ _ _]
  exact .inr (Sub.refl _)
 |agg l=>
  show BR _ _ (M (Ai _)) (Ai _);rw [G_mk hM.m];exact Pj (by simp) fun k _=>key l k
 |pk t l=>
  show BR _ _ (M (pkL t _)) (pkL t _);rw [G_pk hM.m];exact YI (by simp) fun k _=>key l k
 |tup l=>
  show BR _ _ (M (CP _)) (CP _);rw [AaS hM.m];refine Vk (by simp) fun k hk=>?_
  have hk:k<l.length:=by simpa using hk
  simp only [gDE,List.getElem?_map,gEE hk,Option.map_some,Option.getD_some];generalize l[k]=p;obtain⟨b,m⟩:=p;cases b with
  |true=>
   show BR _ _ (M (Ai (m.map (Cl.v r)))) (Ai ((m.map (Cl.killP h)).map (Cl.v r')));rw [G_mk hM.m];exact Pj (by simp) fun k _=>key m k
  |false=>
   have:=key m 0;cases m with
   |nil=>show BR _ _ (M .dead) .dead;exact BR.dead _ _ _
   |cons y m=>simpa using this
theorem Na: ∀ (E:List (CE×V)) (i:Nat) {v v':V},Sub v v'->Sub (CX E i v) (CX E i v')
 | [],_,_,_,h=>h
 |a::E,i,v,v',h=>by
  unfold CX;refine Na E i ?_;split
  ·exact Sub.upd _ h
  ·exact h
def Z8(a:CE×Nat)(y:Σ t:Ty,t.T):V:=match y with
 |⟨.sl u,xs⟩=>cV (.sl u) (a.2+1) xs
 |_=>.dead
theorem IX: ∀ (LD:List (CE×Nat)) (ys:List (Σ t:Ty,t.T)) (r r':List Ae),CA LD ys r=some r'->r'.length=r.length/\LD.length=ys.length/\∀i,Sub (CX ((LD.map (·.1)).zip (LD.zipWith Z8 ys)) i ((r.getD i .dead).v)) (r'.getD i .dead).v
 | [],[],r,r',h=>by cases h;exact⟨rfl,rfl,fun i=>Sub.refl _⟩
 |(a,d)::LD,⟨.sl u,xs⟩::ys,r,r',h=>by
  unfold CA at h;split at h
  case h_2=>cases h
  rename_i x hx;obtain⟨h1,h2,h3⟩:=IX LD ys _ _ h;have hlt:a.1<r.length:=by
   rcases Nat.lt_or_ge a.1 r.length with h|h
   ·exact h
   ·exact absurd (by rw [gDE,List.getElem?_eq_none h];rfl) (J7 hx)
  refine⟨by rw [h1];simp,by simp [h2],fun i=>?_⟩
  show Sub (CX ((LD.map (·.1)).zip (LD.zipWith Z8 ys)) i (if a.1=i then upd a.2 ((r.getD i .dead).v) (cV (.sl u) (d+1) xs)else(r.getD i .dead).v)) _
  refine Sub.trans (Na _ i ?_) (h3 i);by_cases he:a.1=i
  ·subst he
   rw [if_pos rfl];have e:(r.set a.1 x).getD a.1 .dead=x:=by simp [hlt]
   rw [e];exact U5 hx
  ·rw [if_neg he]
   have e:(r.set a.1 x).getD i .dead=r.getD i .dead:=by
    simp only [gDE,List.getElem?_set_ne he]
   rw [e];exact Sub.refl _
 | [],_::_,_,_,h=>by cases h
 |_::_,[],_,_,h=>by cases h
 |_::_,⟨.int _,_⟩::_,_,_,h=>by cases h
 |_::_,⟨.bool,_⟩::_,_,_,h=>by cases h
 |_::_,⟨.str,_⟩::_,_,_,h=>by cases h
 |_::_,⟨.unit,_⟩::_,_,_,h=>by cases h
 |_::_,⟨.ptr _,_⟩::_,_,_,h=>by cases h
 |_::_,⟨.clo _ _,_⟩::_,_,_,h=>by cases h
 |_::_,⟨.osl _,_⟩::_,_,_,h=>by cases h
 |_::_,⟨.pair _ _,_⟩::_,_,_,h=>by cases h
def lenD(y:Σ t:Ty,t.T):Nat:=match y with
 |⟨.sl _,xs⟩=>xs.length
 |_=>0
theorem HN{r:List Ae}{x:Ae}{i j:Nat}(h:i≠j):(r.set i x).getD j .dead=r.getD j .dead:=by
 simp only [gDE,List.getElem?_set_ne h]
theorem IY{id:Nat}{q:AP}: ∀ (LD:List (CE×Nat)) (ys:List (Σ t:Ty,t.T)) (r r':List Ae),CA LD ys r=some r'->(LD.map (·.1)).Pairwise HF->
  (∀k,k<LD.length->(LD.getD k ((0,[]),0)).1.2= []->lenD (ys.getD k ⟨.unit,()⟩)=(r.getD (LD.getD k ((0,[]),0)).1.1 .dead).len)->
  (∀a∈LD,a.1.1=id->(a.1.2= []/\q= [])\/(a.1.2≠[]/\pre (a.1.2.map (·.2)) q=false))->(Af r' id q).len=(Af r id q).len
 | [],[],r,r',h,_,_,_=>by cases h;rfl
 |(a,d)::LD,⟨.sl u,xs⟩::ys,r,r',h,hp,hl,hq=>by
  unfold CA at h;split at h
  case h_2=>cases h
  rename_i x hx;obtain⟨hap,hp'⟩:=List.pairwise_cons.1 hp;have hlt:a.1<r.length:=by
   rcases Nat.lt_or_ge a.1 r.length with h|h
   ·exact h
   ·exact absurd (by rw [gDE,List.getElem?_eq_none h];rfl) (J7 hx)
  rw [IY LD ys _ _ h hp' (fun k hk h0=>?_) fun b hb=>hq b (mCM _ hb)]
  ·by_cases he:id=a.1
   ·subst he
    rw [Cg hlt];have h0:=hq _ (List.mem_cons_self ..) rfl;refine N1 hx (fun hne=>(h0.resolve_left fun h=>hne h.1).2) fun hn=>⟨(h0.resolve_right fun h=>h.1 hn).2,?_⟩
    exact hl 0 (by simp) hn
   ·rw [BJ he]
  ·have h1:=hl (k+1) (by simpa using hk) (by simpa using h0)
   simp only [List.getD_cons_succ]at h1;rw [h1]
   have hne:a.1≠(LD.getD k ((0,[]),0)).1.1:=fun e=>by
    rcases hap (LD.getD k ((0,[]),0)).1 (List.mem_map.2 ⟨_,by simp [hk],rfl⟩)with h2|h2
    ·exact h2 e
    ·rw [h0,OJ]at h2;cases h2
   rw [HN hne]
 | [],_::_,_,_,h,_,_,_=>by cases h
 |_::_,[],_,_,h,_,_,_=>by cases h
 |_::_,⟨.int _,_⟩::_,_,_,h,_,_,_=>by cases h
 |_::_,⟨.bool,_⟩::_,_,_,h,_,_,_=>by cases h
 |_::_,⟨.str,_⟩::_,_,_,h,_,_,_=>by cases h
 |_::_,⟨.unit,_⟩::_,_,_,h,_,_,_=>by cases h
 |_::_,⟨.ptr _,_⟩::_,_,_,h,_,_,_=>by cases h
 |_::_,⟨.clo _ _,_⟩::_,_,_,h,_,_,_=>by cases h
 |_::_,⟨.osl _,_⟩::_,_,_,h,_,_,_=>by cases h
 |_::_,⟨.pair _ _,_⟩::_,_,_,h,_,_,_=>by cases h
theorem L6{L:List CE}{N id:Nat}{q:AP}(h:X2 L N id q=false):id<N/\∀a∈L,a.1=id->(a.2= []/\q= [])\/(a.2≠[]/\pre (a.2.map (·.2)) q=false):=by
 unfold X2 at h;simp only [Bool.or_eq_false_iff,Bool.not_eq_false']at h;refine⟨blE h.1,fun a ha he=>?_⟩
 have h2:=List.any_eq_false.1 h.2 a ha;obtain⟨i,p⟩:=a;simp only at he;subst he;simp only [Nat.beq_refl,Bool.true_and]at h2;cases p with
 |nil=>
  cases q with
  |nil=>exact .inl ⟨rfl,rfl⟩
  |cons b q=>simp at h2
 |cons b p=>exact .inr ⟨by simp,by simpa using h2⟩
theorem sc_put{C:Ctx}{h:D5}{s s':St}{d:Nat}{t:Ty}{x:t.T}{a:Act}{w:World}(ht:t.sc=true)(hp:s.put h (some d) (.one (.c t 0 x))=some s')(hs:AT C h.n s.den a w):AT C h.n s'.den (a.put (some d) (scV t x)) w:=by
 refine AT.put hp ?_;obtain⟨hd,hdd,D,ρ,F,hcr⟩:=hs;have hdn:d<h.n:=by
  unfold St.put at hp;simp only at hp;cases hb:Nat.blt d h.n with
  |false=>rw [hb]at hp;cases hp
  |true=>exact blE hb
 have e:s.den.res h (some d) ((Sl.one (.c t 0 x)).v s.r)=⟨AZ s.den.t d (.c (scV t x)),s.den.σ⟩:=by
  have e1:(Sl.one (.c t 0 x)).v s.r= .c (scV t x):=AaP ht 0 x;rw [e1];unfold Ms.res;simp only [hdn,if_true];split
  ·rfl
  ·show Ms.mk (AZ s.den.t d (.c _)) (s.den.σ++ [])=_
   rw [List.append_nil]
 rw [e];have hone:(scV t x).oneCell'=true:=by cases t<;>first|rfl|cases ht
 have h1:=hcr.setv (Below.refl _ _) (r:=.c (scV t x)) (v':=scV t x) ⟨rfl,hone,fun _ h=>h⟩ (fun _ h=>h) (fun _ h=>.inl h) (fun b hb=>hcr.wr.Dlt b hb) d
 refine⟨hd,fun y hy=>?_,?_⟩
 ·show AZ s.den.t d _ y= .dead
  unfold AZ;rw [if_neg (by omega)]
  exact hdd y hy
 ·rw [CH hdn]at h1
  exact h1
theorem Zc{u:Ty}{d d0:Nat}(h:dOK u d d0=true)(xs:List u.T):cV (.sl u) (d+1) xs=cV (.sl u) (d0+1) xs:=by
 have e:tyV u d=tyV u d0:=funext fun z=>CQ _ _ _ z (L9 h)
 show arr true u.w (tyV u d) u.dflt xs=arr true u.w (tyV u d0) u.dflt xs;rw [e]
theorem US{P:Program}{Γ:List EnW}(hΓ: ∀e∈Γ,e.OK P){C:Ctx}{h:D5}{s s1 s':St}{o:Oper}{f:FuncId}{xs:Array Operand}{ats:Array TypeId}{a:Act}{w:World}{A:WU}{u:A.α}{d:Nat}{next:Act->World->Prop}{Q:Exit->Act->World->Prop}
  (ho:o.op= .call ⟨.value (.func f),xs,ats⟩) (hdst:o.dst=some d) (ha:MD Γ s f (xs.toList.map s.ev)=some A) (hu:A.o=some u) (hst:A.st u=some s1) (hp:s1.put h (some d) (.one (A.y u))=some s')
  (hs:AT C h.n s.den a w) (hn: ∀a' w',AT C h.n s'.den a' w'->next a' w'):o.wp P a w next Q:=by
 obtain⟨hdf,hdd,D,ρ,F,hcr⟩:=hs;unfold MD at ha;split at ha
 case h_2=>cases ha
 rename_i e he;split at ha
 case h_2=>cases ha
 rename_i z LD hz;cases hap:K0 (LD.map (·.1))with
 |false=>rw [hap]at ha;cases ha
 |true=>
 rw [hap]at ha;cases ha;have hap:=NH hap;obtain⟨⟨hcall,hft⟩,hfe⟩:=PH hΓ he;rw [hfe]at hcall hft;have hu:e.g z=some u:=hu
 have hst:(match CA LD (wOf (H7 e.S.ps) u.2) s.r with
  |some r'=>some (⟨fun i=>(s.t i).killP (X2 (LD.map (·.1)) s.r.length),r'⟩:St)
  |none=>none)=some s1:=hst
 have hp:s1.put h (some d) (.one (.c e.S.rt 0 u.1))=some s':=hp;split at hst
 case h_2=>cases hst
 rename_i r' hr';cases hst;obtain⟨hsc,hlen,hnd,hfc⟩:=hft z u hu;obtain⟨g1,g2,g3⟩:=Mo hcr.wr e.S.ps xs.toList z LD hz (fun x _=>B9 hcr hdd x) 0
 obtain⟨k1,k2,k3⟩:=IX _ _ _ _ hr';have hRL:=g2.len
 -- the trees that are handed over
 have hσ0:(BE e.S.ps z 0).2.map Ae.v=(LD.map (·.1)).map fun a=>sub a.2 ((s.r.map Ae.v).getD a.1 .dead):=by
  apply List.ext_getElem
  ·simp [hRL]
  ·intro k h1 h2
   have hk:k<LD.length:=by simp at h2;exact h2
   obtain⟨u',d0,ys,e1,e2,e3⟩:=g2.nd k hk;have hk':k<(BE e.S.ps z 0).2.length:=by omega
   have e1:(BE e.S.ps z 0).2[k]= .arr false u' d0 ys:=by rw [<-e1];simp [hk']
   have e4:LD.getD k ((0,[]),0)=LD[k]:=by simp [hk]
   rw [e4]at e2 e3;simp only [List.getElem_map,e1];have hne:Af s.r LD[k].1.1 LD[k].1.2≠.dead:=by rw [e2];intro h;cases h
   rw [AL hne,e2];exact(Zc e3 ys).symm
 have hσ1:(B0 (BE e.S.ps z 0).2 (wOf (H7 e.S.ps) u.2)).map Ae.v=LD.zipWith Z8 (wOf (H7 e.S.ps) u.2):=by
  apply List.ext_getElem
  ·rw [List.length_map,Ih _ _ hlen.symm,List.length_zipWith];omega
  ·intro k h1 h2
   have hk:k<LD.length:=by simp at h2;omega
   have hk':k<(BE e.S.ps z 0).2.length:=by omega
   obtain⟨u',d0,ys,e1,e2,e3⟩:=g2.nd k hk;have hg:=Do (BE e.S.ps z 0).2 (wOf (H7 e.S.ps) u.2) k hlen.symm hk';have hne:=hnd k hk';rw [hg]at hne;obtain⟨ro,u2,d2,xs2,ys2,f1,f2,f3⟩:=Kq hne;rw [e1]at f1;cases f1;have h3:k<(B0 (BE e.S.ps z 0).2 (wOf (H7 e.S.ps) u.2)).length:=by simpa using h1
   have hy:k<(wOf (H7 e.S.ps) u.2).length:=by omega
   have f2:(wOf (H7 e.S.ps) u.2)[k]=⟨.sl u',ys2⟩:=by rw [<-f2];simp [hy]
   have f4:(B0 (BE e.S.ps z 0).2 (wOf (H7 e.S.ps) u.2))[k]= .arr false u' d0 ys2:=by
    rw [<-f3,<-hg];simp [h3]
   rw [List.getElem_map,List.getElem_zipWith,f4,f2];have e4:LD.getD k ((0,[]),0)=LD[k]:=by simp [hk]
   rw [e4]at e3;exact(Zc e3 ys2).symm
 rw [hσ0,hσ1]at hfc;have hmem: ∀k,k<LD.length->LD.getD k ((0,[]),0)∈LD:=fun k hk=>by simp [hk]
 have hLk: ∀k,k<LD.length->(LD.map (·.1)).getD k (0,[])=(LD.getD k ((0,[]),0)).1:=fun k hk=>by simp [hk]
 have hcall2:=Yo hcr (cvs:=xs.map a.eval) (L:=LD.map (·.1)) hfc (fun b hb=>by
   obtain⟨c,hc,rfl⟩:=List.mem_map.1 hb;exact g2.at' c hc) hap (by rw [List.length_zipWith,List.length_map];omega) (fun k hk=>by
   have hk:k<LD.length:=by simpa using hk
   obtain⟨u',d0,ys,e1,e2,e3⟩:=g2.nd k hk;have hk':k<(BE e.S.ps z 0).2.length:=by omega
   have hg:=Do (BE e.S.ps z 0).2 (wOf (H7 e.S.ps) u.2) k hlen.symm hk';have hne:=hnd k hk';rw [hg]at hne;obtain⟨ro,u2,d2,xs2,ys2,f1,f2,f3⟩:=Kq hne;rw [e1]at f1;cases f1;have hne2:Af s.r (LD.getD k ((0,[]),0)).1.1 (LD.getD k ((0,[]),0)).1.2≠.dead:=by rw [e2];intro h;cases h
   have e5:(LD.zipWith Z8 (wOf (H7 e.S.ps) u.2)).getD k .dead=Z8 (LD.getD k ((0,[]),0)) ((wOf (H7 e.S.ps) u.2).getD k ⟨.unit,()⟩):=by
    have hy:k<(wOf (H7 e.S.ps) u.2).length:=by omega
    simp [List.getElem?_zipWith,hk,hy]
   rw [hLk k hk]
   exact⟨_,_,_,_,_,(show _=V.nd true true u'.w ys.length (fun i j=>(tyV u' (LD.getD k ((0,[]),0)).2 (ys.getD i u'.dflt)).getD j .dead)from(AL hne2).trans (by rw [e2];rfl)),
    (show _=V.nd true true u'.w ys2.length (fun i j=>(tyV u' (LD.getD k ((0,[]),0)).2 (ys2.getD i u'.dflt)).getD j .dead)from by rw [e5,f2];rfl)⟩) (by simp [g1]) (fun ρ0 F0 wr0 hval i hi=>by
   have hi:i<xs.toList.length:=by simpa [g1]using hi
   have h1:=g3 (BE e.S.ps z 0).2 ((LD.map (·.1)).map fun a=>sub a.2 ((s.r.map Ae.v).getD a.1 .dead)) ρ0 (fun j _=>by rw [Nat.zero_add]) (fun k hk=>by
    refine⟨by simpa using hk,?_,?_⟩
    ·simp [hk]
    ·have h2:=hval k (by simpa using hk)
     rw [hLk k hk]at h2;rw [Nat.zero_add];exact h2) i hi
   have e6:((BE e.S.ps z 0).1.map (Sl.v (BE e.S.ps z 0).2)).getD i .dead=((BE e.S.ps z 0).1.getD i (.one .dead)).v (BE e.S.ps z 0).2:=Aw (f:=Sl.v _) (a:=.one .dead) rfl _ _;rw [e6];have hi':i<xs.size:=by simpa using hi
   have e7:(xs.map a.eval).getD i undef=a.eval (xs.toList.getD i (.tmp 0)):=by simp [hi']
   rw [e7];exact h1)
 have hrun:(execOp a.eval o).run P w= .ok (.enter f (xs.map a.eval)) w:=by
  unfold Bi at hcall;split at hcall
  ·rename_i fn hfn
   simp only [bAE,Bool.not_eq_true']at hcall;obtain⟨h1,h2⟩:=hcall;have h2':fn.body.isNone=false:=by cases hb:fn.body<;>simp [hb]at h2⊢
   have e0:a.eval (.func f)= .func (.func f) #[] #[]:=rfl;unfold execOp;rw [ho];simp [resolve,e0,Deferred.ofValue,invoke,callFunc,hfn,h2'];simp at h1;simp [h1];intro hb;simp [hb]at h2
  ·cases hcall
 unfold Oper.wp;rw [hrun,Oper.upon_enter];refine hcall2.mono fun en w' hpost=>?_
 obtain⟨rfl,σ3,M,⟨D3,ρ3,F3,hc3⟩,hl3,hM,hσ3,hsame⟩:=hpost
 have hsr:AT C h.n (St.den ⟨fun i=>(s.t i).killP (X2 (LD.map (·.1)) s.r.length),r'⟩) a w':=by
  have hlen': ∀id q,X2 (LD.map (·.1)) s.r.length id q=false->(Af r' id q).len=(Af s.r id q).len:=by
   intro id q hh;obtain⟨_,hoff⟩:=L6 hh;refine IY LD _ _ _ hr' hap (fun k hk h0=>?_) fun b hb=>hoff b.1 (List.mem_map.2 ⟨b,hb,rfl⟩)
   obtain⟨sz,n,f1,f2,q1,q2⟩:=hsame k (by simpa using hk)
   rw [hLk k hk,h0]at q1;have hy:k<(wOf (H7 e.S.ps) u.2).length:=by omega
   have e5:(LD.zipWith Z8 (wOf (H7 e.S.ps) u.2)).getD k .dead=Z8 (LD.getD k ((0,[]),0)) ((wOf (H7 e.S.ps) u.2).getD k ⟨.unit,()⟩):=by
    simp [List.getElem?_zipWith,hk,hy]
   rw [e5]at q2;have q1:((s.r.map Ae.v).getD (LD.getD k ((0,[]),0)).1.1 .dead)= .nd true true sz n f1:=q1;rw [AK]at q1
   have hr1:(s.r.getD (LD.getD k ((0,[]),0)).1.1 .dead).len=n:=by
    generalize s.r.getD (LD.getD k ((0,[]),0)).1.1 .dead=R at q1;cases R with
    |dead=>cases q1
    |obj ro l=>cases q1
    |arr ro t d xs=>cases q1;rfl
    |opt ro t d x=>cases x with
     |none=>cases q1
     |some xs=>cases q1;rfl
   have hr2:lenD ((wOf (H7 e.S.ps) u.2).getD k ⟨.unit,()⟩)=n:=by
    generalize (wOf (H7 e.S.ps) u.2).getD k ⟨.unit,()⟩=y at q2;obtain⟨ty,x⟩:=y;cases ty with
    |sl u'=>cases q2;rfl
    |_=>cases q2
   rw [hr1,hr2]
  have hperm:=hc3.perm (σ':=r'.map Ae.v) (ts':=(List.range h.n).map (St.den ⟨fun i=>(s.t i).killP (X2 (LD.map (·.1)) s.r.length),r'⟩).t) (π:=fun i=>i) (fun i hi=>by
    rw [List.length_map,k1]at hi;have:(s.r.map Ae.v).length=s.r.length:=by simp
    have hl3:(s.r.map Ae.v).length<=σ3.length:=hl3;omega) (fun _ _ _ _ h=>h) (fun i hi=>by
    have hi':i<(s.r.map Ae.v).length:=by rw [List.length_map,k1]at hi;simpa using hi
    rw [hσ3 i hi',AK];have:=k3 i;have e8:(s.den.σ).getD i .dead=(s.r.getD i .dead).v:=AK _ _;rw [e8];exact this) (fun _ _=>rfl) (by
    have:=hcr.ml;rw [List.length_map,k1];simpa [St.den]using this) (by simp) (fun i hi=>by
    have hi:i<h.n:=by simpa using hi
    have hk:=Sl.killP_ren (r:=s.r) (r':=r') (h:=X2 (LD.map (·.1)) s.r.length) (N:=s.r.length) (M:=M) (hM.weak fun id q hh=>by
     obtain⟨o1,o2⟩:=L6 hh;refine⟨by simpa [St.den]using o1,fun b hb hbe=>?_⟩
     rcases o2 b hb hbe with o3|o3
     ·exact .inl o3
     ·refine .inr ⟨o3.1,?_⟩
      cases hpre:AW b.2 q with
      |false=>rfl
      |true=>rw [Kh hpre]at o3;cases o3.2) (fun id q hh=>(L6 hh).1) hlen' (s.t i)
    have hlr:(r'.map Ae.v).length=s.r.length:=by rw [List.length_map,k1]
    rw [hlr];simpa [hi,St.den]using hk)
  refine⟨hdf,fun x hx=>?_,hperm⟩
  have h0:(s.t x).v s.r= .dead:=hdd x hx;show((s.t x).killP _).v r'= .dead;cases hy:s.t x with
  |one y=>
   rw [hy]at h0;cases y with
   |dead=>rfl
   |c t d z=>exact h0
   |nil=>cases h0
   |nilp=>cases h0
   |nilf=>cases h0
   |rf=>cases h0
   |rs=>cases h0
   |rp=>cases h0
  |new l=>rw [hy]at h0;cases h0
  |agg l=>rw [hy]at h0;cases h0
  |tup l=>rw [hy]at h0;cases h0
  |pk t l=>rw [hy]at h0;cases h0
 rw [hdst];exact hn _ _ (sc_put hsc hp hsr)
end Go.Ve

