/- Factorizations, systems. -/
import Derived.Test.YtlggjlgcmilmhaaSye
namespace Go.Ve.D
open Go Go.Ve
noncomputable section
variable{c:Cat}{e m:List Int}{n:Nat}{α:Type}
theorem appL{R:Type}{f:Int×List α->Option (LO (Int×List α) R)}{K:Nat}{g:Nat->List α}{id:Nat}{a0:List α}(hK: ∀i,i<n->(g i).length<=K)
  (h1: ∀i,i<n->∀acc:List α,acc.length<=a0.length+i*K->f ((i:Int),acc)=some (.next (((i+1:Nat):Int),acc++g i)))
  (h2: ∀acc:List α,f ((n:Int),acc)=some (.brk id ((n:Int),acc))):Ao f ((0:Int),a0)=some (.brk id ((n:Int),a0++(List.range n).flatMap g)):=by
 have key: ∀i,i<=n->(a0++(List.range i).flatMap g).length<=a0.length+i*K:=by
  intro i
  induction i with
  |zero=>intro _;simp
  |succ i ih=>
   intro hi;have h:=ih (by omega)
   have h2:=hK i (by omega)
   rw [List.range_succ,List.flatMap_append,<-List.append_assoc,List.length_append];simp only [List.flatMap_cons,List.flatMap_nil,List.append_nil];rw [Nat.succ_mul];omega
 refine C3 (st:=λi:Nat=>((i:Int),a0++(List.range i).flatMap g)) (n:=n) (by simp) (λi hi=>?_) (h2 _) (λy=>by simp)
 rw [h1 i hi _ (key i (by omega)),List.range_succ,List.flatMap_append,List.append_assoc]
 simp
theorem MI(d:α){x:List α}{p:α->Bool}{i:Nat}(hi:i<x.length):(x.take (i+1)).any p=((x.take i).any p||p (x.getD i d)):=by
 rw [List.take_add_one,List.any_append,gEE hi,gDE,gEE hi];simp
def fc(c:Cat)(e m:List Int)(h:Nat):Bool:=e.any λa=>m.any λb=>decide (T c a.toNat b.toNat=(h:Int))
theorem fc_iff{h:Nat}:fc c e m h=true↔ ∃a∈e,∃b∈m,T c a.toNat b.toNat=(h:Int):=by
 unfold fc;simp only [List.any_eq_true,decide_eq_true_eq]
theorem map_set{t:Nat}{f:Nat->Bool}(ht:t<n):((List.range n).map f).set t true=(List.range n).map λh=>f h||decide ((t:Int)=(h:Int)):=by
 apply List.ext_getElem?;intro k;by_cases hk:k<n
 ·by_cases e:k=t
  ·subst e;simp [hk]
  ·rw [List.getElem?_set_ne (Ne.symm e)]
   have:decide ((t:Int)=(k:Int))=false:=dF (by omega)
   simp [hk,this]
 ·simp [hk]
theorem p66(h:Sh c)(hel:e.length<=1048576)(hml:m.length<=1048576)(he:wi (ar c) e=true)(hm:wi (ar c) m=true):G66 (c,(e,m))=some ((List.range (ar c)).all (fc c e m)):=by
 have hl:=Cy h;unfold G66;refine Aa (p33 c) (A4 ⟨by omega,by omega,by show 1*((ar c:Nat):Int)<=_;omega,by show((ar c:Nat):Int)<=_;omega⟩ ?_)
 refine Aa (C3 (st:=λi:Nat=>((i:Int),(List.range (ar c)).map fun(h:Nat)=>(e.take i).any λa=>m.any λb=>decide (T c a.toNat b.toNat=(h:Int)))) (n:=e.length) (o:=.brk 0 ((e.length:Int),(List.range (ar c)).map fun(h:Nat)=>(e.take e.length).any λa=>m.any λb=>decide (T c a.toNat b.toNat=(h:Int)))) ?_ (λi hi=>?_) (AF ltn rfl) (λy=>by simp)) ?_
 ·show((0:Int),List.replicate (ar c) false)=_
  rw [NT (f:=λ_=>false)];rfl
 ·obtain⟨a,ha,ea⟩:=Uy he hi
  refine A7 (ltd hi) (A4 (Ab hi) (Aa (C3 (st:=λk:Nat=>((k:Int),(List.range (ar c)).map fun(h:Nat)=>((e.take i).any λa=>m.any λb=>decide (T c a.toNat b.toNat=(h:Int)))||(m.take k).any λb=>decide (T c a b.toNat=(h:Int)))) (n:=m.length) (o:=.brk 2 ((m.length:Int),(List.range (ar c)).map fun(h:Nat)=>((e.take i).any λa=>m.any λb=>decide (T c a.toNat b.toNat=(h:Int)))||(m.take m.length).any λb=>decide (T c a b.toNat=(h:Int)))) ?_ (λk hk=>?_) (AF ltn rfl) (λy=>by simp)) ?_))
  ·simp
  ·obtain⟨b,hb,eb⟩:=Uy hm hk
   refine A7 (ltd hk) (A4 (Ab hk) ?_);rw [show e.getD ((i:Int)).toNat 0=(a:Int)from ea,show m.getD ((k:Int)).toNat 0=(b:Int)from eb]
   have en: ∀h:Nat,((m.take (k+1)).any λb=>decide (T c a b.toNat=(h:Int)))=((m.take k).any (λb=>decide (T c a b.toNat=(h:Int)))||decide (T c a b=(h:Int))):=λh=>by rw [MI (0:Int) hk,eb];rfl
   simp only [en];by_cases hp:mt c a b=true
   ·obtain⟨g1,g2,_⟩:=h.pos a b ha hb hp
    obtain⟨t,ht⟩: ∃t:Nat,T c a b=(t:Int):=⟨(T c a b).toNat,by omega⟩
    have htn:t<ar c:=by
     have:(t:Int)<(ar c:Int):=by rw [<-ht];exact g2
     omega
    rw [ht];refine Aa ((p43 h (Ab ha) (Ab hb)).trans (congrArg some ht)) (A7 (dT (by omega)) (A4 ?_ ?_))
    ·show(0:Int)<=(t:Int)/\(t:Int)<(((List.range (ar c)).map _).length:Int)
     rw [List.length_map,List.length_range];exact Ab htn
    ·show some (LO.next (IntKind.wrap .i64 ((k:Int)+1),((List.range (ar c)).map _).set t true))=_
     rw [map_set htn,wr hk hml];simp only [Bool.or_assoc]
   ·have hn:=h.neg a b ha hb (by simpa using hp)
    rw [hn];refine Aa ((p43 h (Ab ha) (Ab hb)).trans (congrArg some hn)) (AF (by decide) ?_)
    show some (LO.next (IntKind.wrap .i64 ((k:Int)+1),(List.range (ar c)).map _))=some (LO.next (_,(List.range (ar c)).map _))
    rw [wr hk hml];refine congrArg (λz=>some (LO.next (((k+1:Nat):Int),z))) (List.map_congr_left λx _=>?_)
    have:decide ((-1:Int)=(x:Int))=false:=dF (by omega)
    rw [this,Bool.or_false]
  ·show some (LO.next (IntKind.wrap .i64 ((i:Int)+1),(List.range (ar c)).map _))=some (LO.next (_,(List.range (ar c)).map _))
   rw [wr hi hel,List.take_length];refine congrArg (λz=>some (LO.next (((i+1:Nat):Int),z))) (List.map_congr_left λx _=>?_)
   rw [MI (0:Int) hi,ea];rfl
 ·show Option.bind (G54 ((List.range (ar c)).map _)) _=_
  rw [List.take_length];refine Aa (p54 (by omega) _) (Aa (p33 c) ?_)
  congr 1
  rw [List.length_map];show decide ((((List.range (ar c)).filter (fc c e m)).length:Int)=(ar c:Int))=_;rw [Bool.eq_iff_iff,decide_eq_true_eq,aET];have:=List.length_filter_eq_length_iff (p:=fc c e m) (l:=List.range (ar c));rw [List.length_range]at this;rw [<-this];omega
def U7(c:Cat)(e m:List Int):Bool:=decide (rt c e=m)&&(decide (lf c m=e)&&(List.range (ar c)).all (fc c e m))
theorem p39(h:Sh c)(hel:e.length<=1048576)(hml:m.length<=1048576)(he:wi (ar c) e=true)(hm:wi (ar c) m=true):G39 (c,(ot c,(e,m)))=some (U7 c e m):=by
 have hl:=Cy h
 have hr: ∀q:Nat->Bool,(((List.range (ar c)).filter q).map fun(i:Nat)=>(i:Int)).length<=1048576:=λq=>by
  rw [List.length_map];have:=List.length_filter_le q (List.range (ar c));rw [List.length_range]at this;omega
 unfold G39;refine Aa (p28 hl hel he) (Aa (p65 (hr _)) (Aa (v:=decide (rt c e=m)&&decide (lf c m=e)) ?_ (Aa (v:=U7 c e m) ?_ rfl)))
 ·cases hA:decide (rt c e=m)
  ·exact AF rfl rfl
  ·exact A7 rfl (Aa (p31 hl hml hm) (Aa (p65 (hr _)) rfl))
 ·unfold U7
  rw [<-Bool.and_assoc];cases hA:decide (rt c e=m)&&decide (lf c m=e)
  ·exact AF rfl rfl
  ·exact A7 rfl (Aa (p66 h hel hml he hm) rfl)
def clC(c:Cat)(ws:List (List Int)):Int:=bif !B3 c then 1 else bif !ws.all (wi (ar c))then 2 else bif !ws.all IN then 5 else 0
theorem p26(h:okC c){ws:List (List Int)}(hl:ws.length<=1048576)(hw: ∀w∈ws,w.length<=1048576):G26 (c,ws)=some (clC c ws):=by
 unfold G26 clC;refine Aa (p32 h) ?_;cases hc:B3 c
 ·rfl
 refine AF rfl ?_;rw [<-CT [] (wi (ar c)) ws,<-CT [] IN ws];have hL:ar c<=40:=Cy (BN hc)
 have e:(bif !true then(1:Int)else bif !(List.range ws.length).all (λi=>wi (ar c) (ws.getD i []))then 2 else bif !(List.range ws.length).all (λi=>IN (ws.getD i []))then 5 else 0)=(bif(List.range ws.length).all (λi=>wi (ar c) (ws.getD i []))then(bif(List.range ws.length).all (λi=>IN (ws.getD i []))then 0 else 5)else 2):=by
  cases (List.range ws.length).all (λi=>wi (ar c) (ws.getD i []))<;>cases (List.range ws.length).all (λi=>IN (ws.getD i []))<;>rfl
 rw [e];refine Yd (n:=ws.length) (p:=λi=>wi (ar c) (ws.getD i [])) (id:=0) (λi hi=>?_) (AF ltn rfl) (λ_=>?_)
 ·refine A7 (ltd hi) (A4 (Ab hi) (Aa (p33 c) (Aa (p51 (n:=((ar c:Nat):Int)) ?_ (hw _ (Dq [] hi))) ?_)))
  ·omega
  ·show(bif !wi (ar c) (ws.getD i [])then _ else _)=_
   rw [show some (LO.next (IntKind.wrap .i64 ((i:Int)+1)))=some (LO.next (R:=Int) ((i+1:Nat):Int)) by rw [wr hi hl]]
   cases wi (ar c) (ws.getD i [])<;>rfl
 ·refine Yd (n:=ws.length) (p:=λi=>IN (ws.getD i [])) (id:=2) (λi hi=>?_) (AF ltn rfl) (λ_=>rfl)
  refine A7 (ltd hi) (A4 (Ab hi) (Aa (p52 (hw _ (Dq [] hi))) ?_));rw [show some (LO.next (IntKind.wrap .i64 ((i:Int)+1)))=some (LO.next (R:=Int) ((i+1:Nat):Int)) by rw [wr hi hl]]
  show(bif !IN (ws.getD i [])then _ else _)=_;cases IN (ws.getD i [])<;>rfl
theorem p29(h:okC c)(he:e.length<=1048576)(hm:m.length<=1048576):G29 (c,(e,m))=some (clC c [e,m]):=by
 unfold G29 clC;refine Aa (p55 h he) ?_;have hm:=p55 h hm;have r1:=p56 he;have r2:G56 m=some (IN m):=p56 ‹m.length<=1048576›;unfold Yg at*;simp only [List.all_cons,List.all_nil,Bool.and_true];cases hc:B3 c<;>rw [hc]at hm
 ·rfl
 cases h1:wi (ar c) e
 ·rfl
 refine A7 rfl (Aa hm ?_);cases h2:wi (ar c) m
 ·rfl
 refine(Aa (v:=!(IN e&&IN m)) (A7 rfl (Aa r1 ?_)) rfl).trans ?_
 ·cases IN e
  ·rfl
  ·exact Aa r2 rfl
 ·cases IN e<;>cases IN m<;>rfl
theorem clC1{w:List Int}:clC c [w,[]]=clC c [w]:=by
 have e1:wi (ar c) []=true:=rfl;have e2:IN []=true:=rfl;unfold clC;simp only [List.all_cons,List.all_nil,Bool.and_true,e1,e2]
end
end Go.Ve.D


namespace Go.Ve.D
open Go Go.Ve
noncomputable section
variable{b:Bool}{c:Cat}{e m v:List Int}{a f i:Nat}{q:Nat->Nat->Nat->Bool}{R:Type}
theorem Up{d:Bool}{o:Option Bool}(h:b=true->o=some d):(bif b then o else some false)=some (b&&d):=by
 cases b
 ·rfl
 ·exact h rfl
theorem pushR{R:Type}{b:Bool}{acc:List (List Int)}{v:List Int}{i j:Int}(ha:acc.length<=1048576)(hj:i=j):
  (bif b then if acc.length+(v:: []).length<=5864062014805 then some (LO.next (R:=R) (i,acc++(v:: [])))else none else some (LO.next (i,acc)))=some (.next (j,acc++bif b then [v]else [])):=by
 subst hj;cases b
 ·show some _=some (LO.next (i,acc++ []));rw [List.append_nil]
 ·exact A4 (by show acc.length+1<=_;omega) rfl
def eN(e:List Int)(i:Nat):Nat:=(e.getD i 0).toNat
def QC(e m:List Int)(z i k:Nat):List Int:=[(z:Int),e.getD i 0,m.getD k 0]
def q68(c:Cat)(e m:List Int)(f z i k:Nat):Bool:=(((decide (fT c (eN e i)=fT c f)&&decide (tT c (eN e i)=(z:Int)))&&decide (fT c (eN m k)=(z:Int)))&&decide (tT c (eN m k)=tT c f))&&decide (T c (eN e i) (eN m k)=(f:Int))
def q19(c:Cat)(e m:List Int)(f z i k:Nat):Bool:=decide (tT c (eN e i)=(z:Int))&&decide (T c (eN e i) (eN m k)=(f:Int))
def fac(c:Cat)(e m:List Int)(q:Nat->Nat->Nat->Bool):List (List Int):=(List.range c.1.toNat).flatMap λz=>(List.range e.length).flatMap λi=>(List.range m.length).flatMap λk=>bif q z i k then [QC e m z i k]else []
theorem D3{α:Type}{K:Nat}{g:Nat->List α}(hK: ∀i,(g i).length<=K): ∀n,((List.range n).flatMap g).length<=n*K
 |0=>by simp
 |n+1=>by
  have h1:=D3 hK n;have h2:=hK n;rw [List.range_succ,List.flatMap_append,List.length_append,Nat.succ_mul];simp only [List.flatMap_cons,List.flatMap_nil,List.append_nil];omega
theorem WF:(bif b then [v]else []).length<=1:=by cases b<;>simp
theorem acc_le{z k E M:Nat}(hz:z<8)(hi:i<E)(hk:k<M)(hE:E<=40)(hM:M<=40)(h:a<=z*(E*(M*1))+i*(M*1)+k*1):a<=1048576:=by
 have h1:M*1<=40:=by omega
 have h2:E*(M*1)<=40*40:=Nat.mul_le_mul hE h1;have h3:z*(E*(M*1))<=8*(40*40):=Nat.mul_le_mul (by omega) h2
 have h4:i*(M*1)<=40*40:=Nat.mul_le_mul (by omega) h1
 omega
theorem loop3(h:Sh c)(hE:e.length<=40)(hM:m.length<=40){q:Nat->Nat->Nat->Bool}{F1:Int×List (List Int)->Option (LO (Int×List (List Int)) R)}{F2:Int×List (List Int)->Int×List (List Int)->Option (LO (Int×List (List Int)) (LO (Int×List (List Int)) R))}
  {F3:Int×List (List Int)->Int×List (List Int)->Int×List (List Int)->Option (LO (Int×List (List Int)) (LO (Int×List (List Int)) (LO (Int×List (List Int)) R)))} {S:Type} {k:LO (Int×List (List Int)) R->Option S}
  (h1: ∀v,F1 v=bif decide (v.1<c.1)then Option.bind (Ao (F2 v) ((0:Int),v.2)) (LO.fin λi1 v1=>if i1=2 then some (LO.next (IntKind.i64.wrap (v.1+1),v1.2))else none)else some (LO.brk 0 v))
  (h2: ∀z v,(0<=v.1/\v.1<(e.length:Int))->F2 z v=Option.bind (Ao (F3 z v) ((0:Int),v.2)) (LO.fin λi1 v1=>if i1=4 then some (LO.next (IntKind.i64.wrap (v.1+1),v1.2))else none)) (h2': ∀z acc,F2 z ((e.length:Int),acc)=some (LO.brk 2 ((e.length:Int),acc)))
  (h3: ∀ (z i k:Nat) acc a1 a2,(z:Int)<c.1->i<e.length->k<m.length->acc.length<=1048576->F3 ((z:Int),a1) ((i:Int),a2) ((k:Int),acc)=some (.next (((k+1:Nat):Int),acc++bif q z i k then [QC e m z i k]else []))) (h3': ∀z i acc,F3 z i ((m.length:Int),acc)=some (LO.brk 4 ((m.length:Int),acc))) {r:Option S}
  (hk:k (.brk 0 (c.1,fac c e m q))=r):Option.bind (Ao F1 ((0:Int),[])) k=r:=by
 have h0:=h.hd.1;obtain⟨n,hn⟩: ∃n:Nat,c.1=(n:Int):=⟨c.1.toNat,by omega⟩
 have hn8:n<=8:=by omega
 have hg1: ∀z i,((List.range m.length).flatMap λk=>bif q z i k then [QC e m z i k]else []).length<=m.length*1:=λz i=>D3 (λk=>WF) _
 have hg2: ∀z,((List.range e.length).flatMap λi=>(List.range m.length).flatMap λk=>bif q z i k then [QC e m z i k]else []).length<=e.length*(m.length*1):=λz=>D3 (hg1 z) _
 refine Aa (appL (n:=n) (K:=e.length*(m.length*1)) (g:=λz=>(List.range e.length).flatMap λi=>(List.range m.length).flatMap λk=>bif q z i k then [QC e m z i k]else []) (id:=0) (λz hz=>hg2 z) (λz hz acc ha=>?_) (λacc=>?_)) ?_
 ·rw [h1,hn]
  refine A7 (ltd hz) (Aa (appL (n:=e.length) (K:=m.length*1) (g:=λi=>(List.range m.length).flatMap λk=>bif q z i k then [QC e m z i k]else []) (id:=2) (λi hi=>hg1 z i) (λi hi acc2 ha2=>?_) (λacc2=>h2' _ _)) ?_)
  ·rw [h2 _ _ (Ab hi)]
   refine Aa (appL (n:=m.length) (K:=1) (g:=λk=>bif q z i k then [QC e m z i k]else []) (id:=4) (λk hk=>WF) (λk hk acc3 ha3=>?_) (λacc3=>h3' _ _ _)) ?_
   ·refine h3 z i k acc3 acc acc2 (by rw [hn];omega) hi hk (acc_le (z:=z) (i:=i) (k:=k) (by omega) hi hk hE hM ?_)
    have:acc.length<=0+z*(e.length*(m.length*1)):=ha;have:acc2.length<=acc.length+i*(m.length*1):=ha2;have:acc3.length<=acc2.length+k*1:=ha3;omega
   ·show some (LO.next (IntKind.wrap .i64 ((i:Int)+1),_))=_
    rw [wr hi (by omega)]
  ·show some (LO.next (IntKind.wrap .i64 ((z:Int)+1),_))=_
   rw [wr hz (by omega)]
 ·rw [h1,hn];exact AF ltn rfl
 ·rw [<-hk,hn]
  show k (.brk 0 ((n:Int),[]++_))=k (.brk 0 ((n:Int),_));unfold fac;rw [hn];rfl
theorem p68(h:Sh c)(hE:e.length<=40)(hM:m.length<=40)(he:wi (ar c) e=true)(hm:wi (ar c) m=true)(hf:f<ar c):G68 (c,(e,(m,(f:Int))))=some (fac c e m (q68 c e m f)):=by
 have ht:=MX h;unfold G68;refine loop3 (q:=q68 c e m f) h hE hM (λv=>rfl) (λz v hi=>A7 (dT hi.2) rfl) (λz acc=>AF ltn rfl) (λz i k acc a1 a2 hz hi hk ha=>?_) (λz i acc=>AF ltn rfl) rfl
 obtain⟨a,ha',ea⟩:=Uy he hi;obtain⟨b,hb,eb⟩:=Uy hm hk;have ga:eN e i=a:=by unfold eN;rw [ea];rfl
 have gb:eN m k=b:=by unfold eN;rw [eb];rfl
 have ina:(0:Int)<=e.getD i 0/\e.getD i 0<(c.2.1.length:Int):=by rw [ea];exact Ab ha'
 have ina':(0:Int)<=e.getD i 0/\e.getD i 0<(c.2.2.1.length:Int):=by rw [ea,ht];exact Ab ha'
 have inb:(0:Int)<=m.getD k 0/\m.getD k 0<(c.2.1.length:Int):=by rw [eb];exact Ab hb
 have inb':(0:Int)<=m.getD k 0/\m.getD k 0<(c.2.2.1.length:Int):=by rw [eb,ht];exact Ab hb
 have inf':(0:Int)<=(f:Int)/\(f:Int)<(c.2.2.1.length:Int):=by rw [ht];exact Ab hf
 refine A7 (ltd hk) (A4 (Ab hi) (A4 ina (A4 (Ab hf) (Aa (Up λ_=>A4 (Ab hi) (A4 ina' rfl)) (Aa (Up λ_=>A4 (Ab hk) (A4 inb rfl)) (Aa (Up λ_=>A4 (Ab hk) (A4 inb' (A4 inf' rfl))) (Aa (Up λ_=>A4 (Ab hi) (A4 (Ab hk) (Aa (p79 h ina inb) rfl))) ?_)))))))
 have:=pushR (R:=LO (Int×List (List Int)) (LO (Int×List (List Int)) (List (List Int)))) (b:=q68 c e m f z i k) (v:=QC e m z i k) ha (wr hk (by omega))
 rw [<-this];show(bif q68 c e m f z i k then _ else _)=_;cases q68 c e m f z i k
 ·rfl
 ·exact A4 (Ab hi) (A4 (Ab hk) rfl)
theorem Md{y:List Int}:y∈fac c e m q↔ ∃z i k,z<c.1.toNat/\i<e.length/\k<m.length/\q z i k=true/\y=QC e m z i k:=by
 unfold fac;simp only [List.mem_flatMap,List.mem_range];constructor
 ·rintro ⟨z,hz,i,hi,k,hk,h⟩
  refine⟨z,i,k,hz,hi,hk,?_⟩;cases hq:q z i k<;>rw [hq]at h<;>simp at h
  exact⟨rfl,h⟩
 ·rintro ⟨z,i,k,hz,hi,hk,hq,rfl⟩
  exact⟨z,hz,i,hi,k,hk,by rw [hq];simp⟩
theorem Z1{α:Type}{x:List α}:decide ((x.length:Int)=0)=true↔ ∀y,y∉x:=by
 cases x with
 |nil=>simp
 |cons a x=>
  refine⟨λh=>?_,λh=>absurd List.mem_cons_self (h a)⟩
  have h:=of_decide_eq_true h;rw [List.length_cons]at h;omega
theorem YX{h:Nat}:fc c e m h=true↔ ∃i k,i<e.length/\k<m.length/\T c (eN e i) (eN m k)=(h:Int):=by
 rw [fc_iff];constructor
 ·rintro ⟨a,ha,b,hb,h⟩
  obtain⟨i,hi,rfl⟩:=List.getElem_of_mem ha;obtain⟨k,hk,rfl⟩:=List.getElem_of_mem hb;refine⟨i,k,hi,hk,?_⟩;unfold eN;rw [gDE,gEE hi,gDE,gEE hk];exact h
 ·rintro ⟨i,k,hi,hk,h⟩
  exact⟨_,Dq 0 hi,_,Dq 0 hk,h⟩
theorem Aap{n:Nat}(he:wi n e=true)(hi:i<e.length):eN e i<n:=by
 obtain⟨a,ha,ea⟩:=Uy he hi;unfold eN;rw [ea];exact ha
theorem T_mt(h:Sh c){b:Nat}(ha:a<ar c)(hb:b<ar c)(ht:T c a b=(f:Int)):mt c a b=true/\f<ar c/\fT c f=fT c a/\tT c f=tT c b:=by
 cases hp:mt c a b
 ·have:=h.neg a b ha hb hp;omega
 ·obtain⟨g1,g2,g3,g4⟩:=h.pos a b ha hb hp
  rw [ht]at g2 g3 g4;refine⟨rfl,by have:(f:Int)<(ar c:Int):=g2;omega,g3,g4⟩
theorem fac68(h:Sh c)(he:wi (ar c) e=true)(hm:wi (ar c) m=true):decide (((fac c e m (q68 c e m f)).length:Int)=0)= !fc c e m f:=by
 rw [Bool.eq_iff_iff,Z1,Bool.not_eq_true',<-Bool.not_eq_true,YX];constructor
 ·rintro h1 ⟨i,k,hi,hk,ht⟩
  have ha:=Aap he hi;have hb:=Aap hm hk;obtain⟨g1,g2,g3,g4⟩:=T_mt h ha hb ht;have h5:=h.to _ ha;have h0:=h.hd.1;obtain⟨z,hz⟩: ∃z:Nat,tT c (eN e i)=(z:Int):=⟨(tT c (eN e i)).toNat,by have:0<=tT c (eN e i):=h5.1;omega⟩
  have h6:tT c (eN e i)<c.1:=h5.2;refine h1 (QC e m z i k) (Md.2 ⟨z,i,k,by omega,hi,hk,?_,rfl⟩)
  have g1:tT c (eN e i)=fT c (eN m k):=of_decide_eq_true g1;unfold q68;rw [dT g3.symm,dT hz,dT (show fT c (eN m k)=(z:Int) by rw [<-g1,hz]),dT g4.symm,dT ht];rfl
 ·intro h1 y hy
  obtain⟨z,i,k,_,hi,hk,hq,_⟩:=Md.1 hy;unfold q68 at hq;rw [bAE]at hq;exact h1 ⟨i,k,hi,hk,of_decide_eq_true hq.2⟩
theorem p41(h:Sh c)(hE:e.length<=40)(hM:m.length<=40)(he:wi (ar c) e=true)(hm:wi (ar c) m=true):G41 (c,(e,m))=some (U7 c e m):=by
 have hl:=Cy h
 have hr: ∀q:Nat->Bool,(((List.range (ar c)).filter q).map fun(i:Nat)=>(i:Int)).length<=1048576:=λq=>by
  rw [List.length_map];have:=List.length_filter_le q (List.range (ar c));rw [List.length_range]at this;omega
 unfold G41 U7;refine Aa (p30 h (by show e.length<=_;omega) he) (Aa (p67 (hr _)) ((Aa (v:=!decide (rt c e=m)|| !decide (lf c m=e)) ?_ rfl).trans ?_))
 ·cases decide (rt c e=m)
  ·rfl
  ·exact AF rfl (Aa (p40 h (by show m.length<=_;omega) hm) (Aa (p67 (hr _)) rfl))
 ·cases decide (rt c e=m)
  ·rfl
  cases decide (lf c m=e)
  ·rfl
  refine AF rfl ((Yd (n:=ar c) (p:=fc c e m) (r:=false) (v:=true) (id:=0) (λi hi=>?_) (AF ltn rfl) (λ_=>rfl)).trans ?_)
  ·refine A7 (ltd hi) (Aa (p68 h hE hM he hm hi) ?_)
   rw [show decide ((((fac c e m (q68 c e m i)).length:Nat):Int)=0)=_ from fac68 h he hm]
   exact fin1' (wr hi (by omega))
  ·cases (List.range (ar c)).all (fc c e m)<;>rfl
end
end Go.Ve.D

