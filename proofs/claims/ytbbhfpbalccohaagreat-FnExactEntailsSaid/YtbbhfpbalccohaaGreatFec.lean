/- Formulas: what makes them. -/
import Derived.Test.YtbbhfpbalccohaaGreatFda
namespace Go.Ve.D
open Go Go.Ve
noncomputable section
theorem YU{X R:Type}{f:X->Option (LO X R)}{x:X}{o:LO X R}(h:f x=some o)(ho: ∀y,o≠.next y):Ag f x=some o:=by
 rw [Bl,h];cases o with
 |next y=>exact absurd rfl (ho y)
 |brk id y=>rfl
 |ret r=>rfl
theorem Jd{X R:Type}{f:X->Option (LO X R)}{x y:X}{r:Option (LO X R)}(h:f x=some (.next y))(h2:Ag f y=r):Ag f x=r:=by
 rw [Bl,h];exact h2
theorem Jf{X R:Type}{f:X->Option (LO X R)}{x y:X}{id:Nat}(h:f x=some (.brk id y)):Ag f x=some (.brk id y):=YU h (fun y=>by simp)
theorem Je{X R:Type}{f:X->Option (LO X R)}{x:X}{r:R}(h:f x=some (.ret r)):Ag f x=some (.ret r):=YU h (fun y=>by simp)
theorem Jq{p:Nat->Bool}: ∀ {n:Nat},(List.range n).all p=false->∃m,m<n/\p m=false/\∀i,i<m->p i=true
 |0,h=>by cases h
 |n+1,h=>by
  rw [List.range_succ,List.all_append]at h;cases ha:(List.range n).all p with
  |false=>
   obtain⟨m,a,b,c⟩:=Jq ha;exact⟨m,by omega,b,c⟩
  |true=>
   rw [ha]at h;simp only [List.all_cons,List.all_nil,Bool.true_and,Bool.and_true]at h;exact⟨n,by omega,h,fun i hi=>aET.1 ha i (List.mem_range.2 hi)⟩
def C8(x:Fl):Prop:=x.length<=1048576/\∀k∈x,k.2.2.length<=1048576
theorem C8.nd{x:Fl}(h:C8 x){i:Nat}(hi:i<x.length):(Go.Ve.D.nd x i).2.2.length<=1048576:=h.2 _ (As nd0 hi)
theorem Z0(k:Nd):G143 k=some ((pts k:Nat):Int):=by
 unfold G143 pts;cases decide (k.1=4)<;>cases decide (k.1=5)<;>cases decide (k.1=6)<;>cases decide (k.1=7)<;>cases decide (k.1=8)<;>rfl
theorem p93(k:Nd):G93 k.1=some ((pts k:Nat):Int):=by
 unfold G93 pts;cases decide (k.1=4)<;>cases decide (k.1=5)<;>cases decide (k.1=6)<;>cases decide (k.1=7)<;>cases decide (k.1=8)<;>rfl
theorem Q3(n a:Int):(decide ((0:Int)<=a)&&decide (a<=n))=inn (n+1) a:=by
 unfold inn
 congr 1
 exact decide_eq_decide.2 (by omega)
theorem p137{k:Nd}(h:k.2.2.length<=1048576):G137 k=some (A7 k):=by
 unfold G137 A7;refine Aa (W2 (by omega) h) ?_
 cases wi 4 k.2.2 with
 |false=>rfl
 |true=>
 have e1:G69 (k.2.1,((0:Int),(3:Int)))=some (inn 4 k.2.1):=by rw [p69,Q3];rfl
 have e2:G69 (k.2.1,((0:Int),(2:Int)))=some (inn 3 k.2.1):=by rw [p69,Q3];rfl
 have e3:G69 (k.1,((0:Int),(8:Int)))=some (inn 9 k.1):=by rw [p69,Q3];rfl
 have c1:decide (((k.2.2.length:Nat):Int)<=(2:Int))=decide (k.2.2.length<=2):=decide_eq_decide.2 (by omega)
 have c2:decide (((k.2.2.length:Nat):Int)=(2:Int))=decide (k.2.2.length=2):=decide_eq_decide.2 (by omega)
 have c0:decide (((k.2.2.length:Nat):Int)=(0:Int))=decide (k.2.2.length=0):=decide_eq_decide.2 (by omega)
 simp only [e1,e2,e3,c1,c2,c0];cases decide (k.1=2)with
 |true=>cases inn 4 k.2.1<;>rfl
 |false=>
 cases decide (k.1=3)with
 |true=>cases decide (k.2.1=0)<;>rfl
 |false=>
 cases decide (k.1=7)with
 |true=>cases inn 3 k.2.1<;>rfl
 |false=>
 cases decide (k.1=8)with
 |true=>cases inn 3 k.2.1<;>rfl
 |false=>cases inn 9 k.1<;>cases decide (k.2.1=0)<;>rfl
theorem p131{k:Nd}(h:k.2.2.length<=1048576):G131 k=some (A7 k):=by
 unfold G131 A7;refine Aa (W3 h) ?_;cases wi 4 k.2.2 with
 |false=>rfl
 |true=>
 have e1:G127 (k.2.1,((0:Int),(3:Int)))=some (inn 4 k.2.1):=by rw [Z1,Q3];rfl
 have e2:G127 (k.2.1,((0:Int),(2:Int)))=some (inn 3 k.2.1):=by rw [Z1,Q3];rfl
 have e3:G127 (k.1,((0:Int),(8:Int)))=some (inn 9 k.1):=by rw [Z1,Q3];rfl
 have c1:decide (((k.2.2.length:Nat):Int)<=(2:Int))=decide (k.2.2.length<=2):=decide_eq_decide.2 (by omega)
 have c2:decide (((k.2.2.length:Nat):Int)=(2:Int))=decide (k.2.2.length=2):=decide_eq_decide.2 (by omega)
 have c0:decide (((k.2.2.length:Nat):Int)=(0:Int))=decide (k.2.2.length=0):=decide_eq_decide.2 (by omega)
 simp only [e1,e2,e3,c1,c2,c0];cases decide (k.1=2)with
 |true=>cases inn 4 k.2.1<;>rfl
 |false=>
 cases decide (k.1=3)with
 |true=>cases decide (k.2.1=0)<;>rfl
 |false=>
 cases decide (k.1=7)with
 |true=>cases inn 3 k.2.1<;>rfl
 |false=>
 cases decide (k.1=8)with
 |true=>cases inn 3 k.2.1<;>rfl
 |false=>cases inn 9 k.1<;>cases decide (k.2.1=0)<;>rfl
def stE(x:Fl)(s i:Nat):Int×Int:=(((s+i:Nat):Int),((opn x s i:Nat):Int))
theorem YM{x:Fl}{s i:Nat}(hx:x.length<=1048576)(h:s+i<x.length)(h0:0<opn x s i):
  IntKind.wrap .i64 (IntKind.wrap .i64 (((opn x s i:Nat):Int)+((pts (nd x (s+i)):Nat):Int))-1)=((opn x s (i+1):Nat):Int)/\
  IntKind.wrap .i64 (IntKind.wrap .i64 (((opn x s i:Nat):Int)-1)+((pts (nd x (s+i)):Nat):Int))=((opn x s (i+1):Nat):Int):=by
 have h1:=LG h;have h2:=YN x s i (by omega)
 have h3:=Vv (nd x (s+i));have e1:IntKind.wrap .i64 (((opn x s i:Nat):Int)+((pts (nd x (s+i)):Nat):Int))=((opn x s i:Nat):Int)+((pts (nd x (s+i)):Nat):Int):=Bx (by omega) (by omega)
 have e2:IntKind.wrap .i64 (((opn x s i:Nat):Int)-1)=((opn x s i:Nat):Int)-1:=Bx (by omega) (by omega)
 rw [e1,e2,Bx (by omega) (by omega),Bx (by omega) (by omega)]
 omega
theorem U3{x:Fl}{s i:Nat}(hx:x.length<=1048576)(h:s+i<x.length)(h0:0<opn x s i){F:Int×Int->Option (LO (Int×Int) Int)}
  (hF:F=fun v0=>(bif(decide ((0:Int)<v0.2))then(bif(decide (((x.length:Nat):Int)<=v0.1))then(AM (some (-(1:Int))))else(if(((0:Int)<=v0.1)/\(v0.1<((x.length:Nat):Int)))then(Option.bind (G143 (x.getD (v0.1).toNat ((0:Int),((0:Int),([]:(List Int)))))) (fun(v1:Int)=>(some (LO.next ((IntKind.wrap .i64 (v0.1+(1:Int))),(IntKind.wrap .i64 ((IntKind.wrap .i64 (v0.2+v1))-(1:Int))))))))else none))else(some (LO.brk 0 (v0.1,v0.2))))):
  F (stE x s i)=some (.next (stE x s (i+1))):=by
 subst hF;refine Aj (dT (show(0:Int)<((opn x s i:Nat):Int) by omega)) (Ad (dF (show ¬ ((x.length:Nat):Int)<=((s+i:Nat):Int) by omega)) (Am (Ab h) (Aa (Z0 (nd x (s+i))) ?_)))
 show some (LO.next (IntKind.wrap .i64 (((s+i:Nat):Int)+1),IntKind.wrap .i64 (IntKind.wrap .i64 (((opn x s i:Nat):Int)+((pts (nd x (s+i)):Nat):Int))-1)))=some (LO.next (((s+(i+1):Nat):Int),((opn x s (i+1):Nat):Int)))
 rw [wrS (by omega),(YM hx h h0).1]
 rfl
theorem YB{x:Fl}{s i:Nat}(hx:x.length<=1048576)(h:s+i<x.length)(h0:0<opn x s i){F:Int×Int->Option (LO (Int×Int) Int)}
  (hF:F=fun v0=>(bif(decide ((0:Int)<v0.2))then(bif(decide (((x.length:Nat):Int)<=v0.1))then(AM (some (-(1:Int))))else(if(((0:Int)<=v0.1)/\(v0.1<((x.length:Nat):Int)))then(Option.bind (G93 (x.getD (v0.1).toNat ((0:Int),((0:Int),([]:(List Int))))).1) (fun(v1:Int)=>(some (LO.next ((IntKind.wrap .i64 (v0.1+(1:Int))),(IntKind.wrap .i64 ((IntKind.wrap .i64 (v0.2-(1:Int)))+v1)))))))else none))else(some (LO.brk 0 (v0.1,v0.2))))):
  F (stE x s i)=some (.next (stE x s (i+1))):=by
 subst hF;refine Aj (dT (show(0:Int)<((opn x s i:Nat):Int) by omega)) (Ad (dF (show ¬ ((x.length:Nat):Int)<=((s+i:Nat):Int) by omega)) (Am (Ab h) (Aa (p93 (nd x (s+i))) ?_)))
 show some (LO.next (IntKind.wrap .i64 (((s+i:Nat):Int)+1),IntKind.wrap .i64 (IntKind.wrap .i64 (((opn x s i:Nat):Int)-1)+((pts (nd x (s+i)):Nat):Int))))=some (LO.next (((s+(i+1):Nat):Int),((opn x s (i+1):Nat):Int)))
 rw [wrS (by omega),(YM hx h h0).2]
 rfl
theorem p138{x:Fl}{s:Nat}{t:Tr}(hx:x.length<=1048576)(h:At x s t)(ho:t.ok=true):G138 (x,(s:Int))=some ((s+t.flat.length:Nat):Int):=by
 obtain⟨h1,h2⟩:=YO h ho;have hl:=(Da h).2.2;refine Aa (Ax (st:=stE x s) (n:=t.flat.length) (o:=.brk 0 (stE x s t.flat.length)) (fun i hi=>U3 hx (by omega) (h1 i hi) rfl) ?_ (fun y=>by simp)) rfl
 exact Ad (dF (show ¬ (0:Int)<((opn x s t.flat.length:Nat):Int) by omega)) rfl
theorem p94{x:Fl}{s:Nat}{t:Tr}(hx:x.length<=1048576)(h:At x s t)(ho:t.ok=true):G94 (x,(s:Int))=some ((s+t.flat.length:Nat):Int):=by
 obtain⟨h1,h2⟩:=YO h ho;have hl:=(Da h).2.2;refine Aa (Ax (st:=stE x s) (n:=t.flat.length) (o:=.brk 0 (stE x s t.flat.length)) (fun i hi=>YB hx (by omega) (h1 i hi) rfl) ?_ (fun y=>by simp)) rfl
 exact Ad (dF (show ¬ (0:Int)<((opn x s t.flat.length:Nat):Int) by omega)) rfl
theorem PU{x:Fl}(hx:x.length<=1048576){F:Int×Int->Option (LO (Int×Int) Int)}(hs: ∀i,i<x.length->0<opn x 0 i->F (stE x 0 i)=some (.next (stE x 0 (i+1))))
  (hb: ∀i,i<=x.length->opn x 0 i=0->F (stE x 0 i)=some (.brk 0 (stE x 0 i))) (hr:opn x 0 x.length≠0->F (stE x 0 x.length)=some (.ret (-1))):
  ∃r,Option.bind (Ag F ((0:Int),(1:Int))) (LO.fin fun i0 (v0:(Int×Int))=>(if i0=0 then(some v0.1)else none))=some r/\decide (r=(x.length:Int))=(opB x&&decide (opn x 0 x.length=0)):=by
 cases ho:opB x with
 |true=>
  have hp: ∀i,i<x.length->0<opn x 0 i:=fun i hi=>by
   have:=aET.1 ho i (List.mem_range.2 hi);simp at this;omega
  by_cases h0:opn x 0 x.length=0
  ·refine⟨(x.length:Int),?_,by rw [dT rfl,dT h0];rfl⟩
   refine Aa (Ax (st:=stE x 0) (n:=x.length) (fun i hi=>hs i hi (hp i hi)) (hb _ (Nat.le_refl _) h0) (fun y=>by simp)) ?_
   show some (((0+x.length:Nat)):Int)=_;rw [Nat.zero_add]
  ·refine⟨-1,?_,by rw [dF h0,dF (by omega)];rfl⟩
   exact Aa (Ax (st:=stE x 0) (n:=x.length) (fun i hi=>hs i hi (hp i hi)) (hr h0) (fun y=>by simp)) rfl
 |false=>
  obtain⟨m,hm,hpm,hpi⟩:=Jq ho;have h0:opn x 0 m=0:=by simpa using hpm
  have hp: ∀i,i<m->0<opn x 0 i:=fun i hi=>by
   have:=hpi i hi;simp at this;omega
  refine⟨(m:Int),?_,by rw [dF (by omega)];rfl⟩
  refine Aa (Ax (st:=stE x 0) (n:=m) (fun i hi=>hs i (by omega) (hp i hi)) (hb _ (by omega) h0) (fun y=>by simp)) ?_
  show some (((0+m:Nat)):Int)=_;rw [Nat.zero_add]
theorem p138e{x:Fl}(hx:x.length<=1048576): ∃r,G138 (x,(0:Int))=some r/\decide (r=(x.length:Int))=(opB x&&decide (opn x 0 x.length=0)):=by
 refine PU hx (fun i hi h0=>U3 hx (by omega) h0 rfl) (fun i hi h0=>?_) (fun h0=>?_)
 ·exact Ad (dF (show ¬ (0:Int)<((opn x 0 i:Nat):Int) by omega)) rfl
 ·exact Aj (dT (show(0:Int)<((opn x 0 x.length:Nat):Int) by omega)) (Aj (dT (show((x.length:Nat):Int)<=((0+x.length:Nat):Int) by omega)) rfl)
theorem p94e{x:Fl}(hx:x.length<=1048576): ∃r,G94 (x,(0:Int))=some r/\decide (r=(x.length:Int))=(opB x&&decide (opn x 0 x.length=0)):=by
 refine PU hx (fun i hi h0=>YB hx (by omega) h0 rfl) (fun i hi h0=>?_) (fun h0=>?_)
 ·exact Ad (dF (show ¬ (0:Int)<((opn x 0 i:Nat):Int) by omega)) rfl
 ·exact Aj (dT (show(0:Int)<((opn x 0 x.length:Nat):Int) by omega)) (Aj (dT (show((x.length:Nat):Int)<=((0+x.length:Nat):Int) by omega)) rfl)
theorem fm_hd(x:Fl):(decide ((1:Int)<=(x.length:Int))&&decide ((x.length:Int)<=40))=(decide (1<=x.length)&&decide (x.length<=40)):=by
 congr 1
 ·exact decide_eq_decide.2 (by omega)
 ·exact decide_eq_decide.2 (by omega)
theorem p108{x:Fl}(h:C8 x):G108 x=some (Dc x):=by
 have hx:=h.1;refine Aa (p69 _ _ _) ?_;rw [fm_hd];unfold Dc;cases decide (1<=x.length)&&decide (x.length<=40)with
 |false=>rfl
 |true=>
 rw [Bool.true_and];obtain⟨r,hr,er⟩:=p138e hx;refine(JM (n:=x.length) (p:=fun i=>A7 (nd x i)) (id:=0) (r:=false) (v:=opB x&&decide (opn x 0 x.length=0)) (fun i hi=>?_) (Ad A1 rfl) (fun _=>Am rfl (Aa hr (by rw [<-er])))).trans ?_
 ·exact Aj (Cn hi) (Am (Ab hi) (Aa (p137 (h.nd hi)) (fin1 (wrS (by omega)))))
 ·rw [H5];rfl
theorem p104{x:Fl}(h:C8 x):G104 x=some (Dc x):=by
 have hx:=h.1;refine Aa (Z1 _ _ _) ?_;rw [fm_hd];unfold Dc;cases decide (1<=x.length)&&decide (x.length<=40)with
 |false=>rfl
 |true=>
 rw [Bool.true_and];obtain⟨r,hr,er⟩:=p94e hx;refine(JM (n:=x.length) (p:=fun i=>A7 (nd x i)) (id:=0) (r:=false) (v:=opB x&&decide (opn x 0 x.length=0)) (fun i hi=>?_) (Ad A1 rfl) (fun _=>Am rfl (Aa hr (by rw [<-er])))).trans ?_
 ·exact Aj (Cn hi) (Am (Ab hi) (Aa (p131 (k:=nd x i) (h.nd hi)) (fin1 (wrS (by omega)))))
 ·rw [H5];rfl
def tr(x:Fl):Tr:=if h:Dc x=true then Classical.choose (fm_tr h)else .leaf nd0
theorem NN{x:Fl}(h:Dc x=true):(tr x).ok=true/\x=(tr x).flat/\x.length<=40:=by
 unfold tr;rw [dif_pos h];exact Classical.choose_spec (fm_tr h)
theorem Qd{x:Fl}(h:Dc x=true):At x 0 (tr x):=by
 obtain⟨_,e,_⟩:=NN h;have:=at_all (tr x);rwa [<-e]at this
def Ij(S:List SF)(G:List Int):Bool:=decide (G.length<=4)&&wi (S.length:Int) G
theorem KJ{S:List SF}{G:List Int}(h:Ij S G=true):CK S G:=by
 unfold Ij at h;rw [bAE,decide_eq_true_eq]at h;exact⟨h.1,h.2⟩
theorem p109{S:List SF}{R:List Rl}{G:List Int}(hS:S.length<=1048576)(hG:G.length<=1048576):G109 ((S,R),G)=some (Ij S G):=by
 have c:decide (((G.length:Nat):Int)<=(4:Int))=decide (G.length<=4):=decide_eq_decide.2 (by omega)
 unfold G109 Ij;simp only [c];cases decide (G.length<=4)with
 |false=>rfl
 |true=>exact Aa (Aa (W2 (by omega) hG) rfl) rfl
theorem p105{S:List SF}{R:List Rl}{G:List Int}(hG:G.length<=1048576):G105 ((S,R),G)=some (Ij S G):=by
 have c:decide (((G.length:Nat):Int)<=(4:Int))=decide (G.length<=4):=decide_eq_decide.2 (by omega)
 unfold G105 Ij;simp only [c];cases decide (G.length<=4)with
 |false=>rfl
 |true=>exact Aa (Aa (W3 hG) rfl) rfl
theorem p68{S:List SF}{R:List Rl}{G:List Int}{L:List Fl}(h:JJ (S,R))(hG:G.length<=1048576)(hL:L.length<=2097152)(hx: ∀x∈L,C8 x):
  G68 ((S,R),(G,L))=some (bif !L2 (S,R)then 1 else bif(List.range L.length).all (fun i=>Dc (L.getD i []))then(bif Ij S G then 0 else 2)else 1):=by
 refine Aa (p107 h) ?_;cases L2 (S,R)with
 |false=>rfl
 |true=>
 refine(JM (n:=L.length) (p:=fun i=>Dc (L.getD i [])) (id:=0) (r:=(1:Int)) (v:=bif Ij S G then 0 else 2) (fun i hi=>?_) (Ad A1 rfl) (fun _=>Am rfl ?_))
 ·exact Aj (Cn hi) (Am (Ab hi) (Aa (p108 (hx _ (As [] hi))) (fin1 (wrS (by omega)))))
 ·refine Aa (p109 (by exact h.1) hG) ?_
  cases Ij S G<;>rfl
end
end Go.Ve.D


namespace Go.Ve.D
open Go Go.Ve
noncomputable section
theorem p154{G a:List Int}(hG:G.length<=4)(ha:a.length<=1048576):G154 (G,a)=some (bif wi (G.length:Int) a then(thn a G,true)else([],false)):=by
 refine Aa (W2 (show(0:Int)<=(G.length:Int)/\(G.length:Int)<=9223372036854775807 by omega) ha) ?_
 cases hw:wi (G.length:Int) a with
 |false=>rfl
 |true=>exact Aa (p160 ha hw) rfl
theorem p79{x:List Int}(h:x.length<=1048576):G79 x=some x:=Am (show([]:List Int).length+x.length<=17592186044416 by simp;omega) rfl
theorem p78{x:List Int}(h:x.length<=1048576):G78 x=some x:=Am (show([]:List Int).length+x.length<=17592186044416 by simp;omega) rfl
theorem p142{G:List Int}{s:Int}(h:G.length<=1048576):G142 (G,s)=some (G++ [s]):=Aa (p79 h) (Am (Q2 (a:=G) (by omega)) rfl)
abbrev Aa7:=St×List Int×Fl×Int
theorem tl0{r:Aa7->Option Int}{s:St}{G:List Int}{x:Fl}{i:Int}{k:Nd}(hk:pts k=0):Im r s G x i k=some i:=by
 refine Aa (Z0 k) ?_;rw [hk];exact Aa (Jf (Ad rfl rfl)) rfl
theorem tl1{r:Aa7->Option Int}{s:St}{G:List Int}{x:Fl}{i a:Int}{k:Nd}(hk:pts k=1)(h:r (s,(G,(x,i)))=some a):Im r s G x i k=some (bif decide (a<0)then-1 else a):=by
 refine Aa (Z0 k) ?_;rw [hk];cases ha:decide (a<0)with
 |true=>exact Aa (Je (Aj rfl (Aa h (Aj ha rfl)))) rfl
 |false=>exact Aa (Jd (y:=(a,0)) (Aj rfl (Aa h (Ad ha rfl))) (Jf (Ad rfl rfl))) rfl
theorem tl2{r:Aa7->Option Int}{s:St}{G:List Int}{x:Fl}{i a b:Int}{k:Nd}(hk:pts k=2)(h:r (s,(G,(x,i)))=some a)(h2:decide (a<0)=false->r (s,(G,(x,a)))=some b):
  Im r s G x i k=some (bif decide (a<0)then-1 else bif decide (b<0)then-1 else b):=by
 refine Aa (Z0 k) ?_;rw [hk];cases ha:decide (a<0)with
 |true=>exact Aa (Je (Aj rfl (Aa h (Aj ha rfl)))) rfl
 |false=>
  refine Aa (Jd (y:=(a,1)) (Aj rfl (Aa h (Ad ha rfl))) ?_) ?_ (v:=bif decide (b<0)then .ret (-1)else .brk 1 (b,0))
  ·cases hb:decide (b<0)with
   |true=>exact Je (Aj rfl (Aa (h2 ha) (Aj hb rfl)))
   |false=>exact Jd (y:=(b,0)) (Aj rfl (Aa (h2 ha) (Ad hb rfl))) (Jf (Ad rfl rfl))
  ·cases decide (b<0)<;>rfl
theorem Ah{a b:Int}(h:a≠b):decide (a=b)=false:=dF h
theorem LT{n:Nat}:decide (((n:Nat):Int)<0)=false:=dF (by omega)
theorem StK.rl{s:St}(h:StK s){k:Int}(hk:0<=k/\k<(s.2.length:Int)):RK s.1 (rlA s.2 k):=h.rk _ (by omega)
theorem XJ{S:List SF}{R:List Rl}(hs:StK (S,R)){x:Fl}(hx:C8 x): ∀t:Tr,t.ok=true->∀G:List Int,CK S G->∀i:Nat,At x i t->∀n,t.flat.length<=n->
  R141 n ((S,R),(G,(x,(i:Int))))=some (bif tyB S R t G then((i+t.flat.length:Nat):Int)else-1)
 | .leaf k,ho,G,hc,i,ha,0,hn=>absurd hn (by have:=BN (.leaf k);omega)
 | .leaf k,ho,G,hc,i,ha,n+1,hn=>by
  obtain⟨hi,hnd,_⟩:=Da ha;have hnd:nd x i=k:=hnd;have hx1:=hx.1;have hal:=hx.nd hi;subst hnd;have hl:=hc.l;have hk:=LP ho
  have hp:pts (nd x i)=0:=by
   have ho:(A7 (nd x i)&&decide (pts (nd x i)=0))=true:=ho;rw [bAE,decide_eq_true_eq]at ho;exact ho.2
  obtain⟨n4,n5,n6,n7,n8⟩:=pts0 hp;have hT:Im (R141 n) (S,R) G x (IntKind.wrap .i64 ((i:Int)+1)) (nd x i)=some (((i+1:Nat)):Int):=by rw [wrS (by omega)];exact tl0 hp
  refine Am (Ab hi) ?_;show _=some (bif CM R (nd x i) G then((i+1:Nat):Int)else-1);unfold CM;rcases hk.c with e|e|⟨e,s0,s1⟩|⟨e,l2⟩
  ·refine Ad (Ah (show(nd x i).1≠2 by omega)) (Ad (Ah (show(nd x i).1≠3 by omega)) (Ad (Ah (show(nd x i).1≠7 by omega)) (Ad (Ah (show(nd x i).1≠8 by omega)) ?_)))
   rw [Ah (show(nd x i).1≠2 by omega),Ah (show(nd x i).1≠3 by omega)]
   exact hT
  ·refine Ad (Ah (show(nd x i).1≠2 by omega)) (Ad (Ah (show(nd x i).1≠3 by omega)) (Ad (Ah (show(nd x i).1≠7 by omega)) (Ad (Ah (show(nd x i).1≠8 by omega)) ?_)))
   rw [Ah (show(nd x i).1≠2 by omega),Ah (show(nd x i).1≠3 by omega)]
   exact hT
  ·have e154:=p154 hl hal
   refine Aj (dT (show(nd x i).1=2 from e)) ?_
   rw [dT (show(nd x i).1=2 from e),cond_true]
   cases hw:wi (G.length:Int) (nd x i).2.2 with
   |false=>rw [hw,cond_false]at e154;exact Aa e154 rfl
   |true=>
   rw [hw,cond_true]at e154;refine Aa e154 ?_;by_cases hs2:(nd x i).2.1<(R.length:Int)
   ·have h1:decide (((R.length:Nat):Int)<=(nd x i).2.1)=false:=dF (by omega)
    have hr:=hs.rl ⟨s0,hs2⟩;refine Aa (v:=false) (congrArg some h1) (Aa (v:=!decide (thn (nd x i).2.2 G=(rlA R (nd x i).2.1).1)) ?_ ?_)
    ·exact Ad rfl (Am (show(0:Int)<=(nd x i).2.1/\(nd x i).2.1<(R.length:Int)from⟨s0,hs2⟩) (Aa (p151 (by rw [HJ];omega) (by have h:(rlA R (nd x i).2.1).1.length<=2:=hr.l;exact Nat.le_trans h (by decide))) rfl))
    ·rw [dT hs2]
     cases decide (thn (nd x i).2.2 G=(rlA R (nd x i).2.1).1)with
     |false=>rfl
     |true=>exact Ad rfl hT
   ·have h1:decide (((R.length:Nat):Int)<=(nd x i).2.1)=true:=dT (by omega)
    rw [dF hs2];exact Aa (v:=true) (congrArg some h1) (Aa (v:=true) rfl (Aj rfl rfl))
  ·have e154:=p154 hl hal
   refine Ad (Ah (show(nd x i).1≠2 by omega)) (Aj (dT (show(nd x i).1=3 from e)) ?_)
   rw [Ah (show(nd x i).1≠2 by omega),dT (show(nd x i).1=3 from e),cond_false,cond_true]
   cases hw:wi (G.length:Int) (nd x i).2.2 with
   |false=>rw [hw,cond_false]at e154;exact Aa e154 rfl
   |true=>
   rw [hw,cond_true]at e154;refine Aa e154 ?_
   have tg: ∀j,j<2->(thn (nd x i).2.2 G).getD j 0=G.getD ((nd x i).2.2.getD j 0).toNat 0:=fun j hj=>by
    unfold thn;rw [gDE,List.getElem?_map,List.getElem?_range (by omega)];rfl
   have tl:(thn (nd x i).2.2 G).length=2:=by rw [HJ];exact l2
   refine Aa (v:=!decide ((thn (nd x i).2.2 G).getD 0 0=(thn (nd x i).2.2 G).getD 1 0)) ?_ ?_
   ·exact Ad rfl (Am (show(0:Int)<=(0:Int)/\(0:Int)<((thn (nd x i).2.2 G).length:Int) by omega) (Am (show(0:Int)<=(1:Int)/\(1:Int)<((thn (nd x i).2.2 G).length:Int) by omega) rfl))
   ·rw [tg 0 (by omega),tg 1 (by omega)]
    cases decide (G.getD ((nd x i).2.2.getD 0 0).toNat 0=G.getD ((nd x i).2.2.getD 1 0).toNat 0)with
    |false=>rfl
    |true=>exact Ad rfl hT
 | .un k a,ho,G,hc,i,ha,0,hn=>absurd hn (by have:=BN (.un k a);omega)
 | .un k a,ho,G,hc,i,ha,n+1,hn=>by
  obtain⟨hi,hnd,hle⟩:=Da ha;have hnd:nd x i=k:=hnd;have hx1:=hx.1;have hl:=hc.l;subst hnd;obtain⟨hk,⟨k0,k1⟩,ka,hoa⟩:=QW ho;have hp:pts (nd x i)=1:=XC hk;have hfl:=DW (nd x i) a;refine Am (Ab hi) ?_
  have hv: ∀K:Bool->Option Int,Option.bind (bif decide ((S.length:Int)<=(nd x i).2.1)then some true else some (decide ((G.length:Int)=(4:Int)))) K=K (!(decide ((nd x i).2.1<(S.length:Int))&& !decide (G.length=4))):=fun K=>by
   have e1:decide ((S.length:Int)<=(nd x i).2.1)= !decide ((nd x i).2.1<(S.length:Int)):=by
    by_cases h:(nd x i).2.1<(S.length:Int)
    ·rw [dT h,dF (by omega)];rfl
    ·rw [dF h,dT (by omega)];rfl
   have e2:decide ((G.length:Int)=(4:Int))=decide (G.length=4):=decide_eq_decide.2 (by omega)
   rw [e1,e2];cases decide ((nd x i).2.1<(S.length:Int))<;>cases decide (G.length=4)<;>rfl
  have tail: ∀r:Option Int,r=some (bif tyB S R a (G++ [(nd x i).2.1])then((i+(Tr.un (nd x i) a).flat.length:Nat):Int)else-1)->
    (decide ((nd x i).2.1<(S.length:Int))&& !decide (G.length=4))=true->r=some (bif tyB S R (.un (nd x i) a) G then((i+(Tr.un (nd x i) a).flat.length:Nat):Int)else-1):=fun r h1 h2=>by
   rw [h1];show _=some (bif(decide ((nd x i).2.1<(S.length:Int))&& !decide (G.length=4))&&tyB S R a (G++ [(nd x i).2.1])then _ else _);rw [h2,Bool.true_and]
  have nov:(decide ((nd x i).2.1<(S.length:Int))&& !decide (G.length=4))=false->some (-1:Int)=some (bif tyB S R (.un (nd x i) a) G then((i+(Tr.un (nd x i) a).flat.length:Nat):Int)else-1):=fun h2=>by
   show _=some (bif(decide ((nd x i).2.1<(S.length:Int))&& !decide (G.length=4))&&tyB S R a (G++ [(nd x i).2.1])then _ else _);rw [h2];rfl
  have inner:(decide ((nd x i).2.1<(S.length:Int))&& !decide (G.length=4))=true->Im (R141 n) (S,R) (G++ [(nd x i).2.1]) x (IntKind.wrap .i64 ((i:Int)+1)) (nd x i)=some (bif tyB S R a (G++ [(nd x i).2.1])then((i+(Tr.un (nd x i) a).flat.length:Nat):Int)else-1):=fun h=>by
   rw [bAE,decide_eq_true_eq,Bool.not_eq_true',decide_eq_false_iff_not]at h;have hc':=CK.snoc hc ⟨k0,h.1⟩ h.2;have ih:=XJ hs hx a hoa (G++ [(nd x i).2.1]) hc' (i+1) (Ui ha) n (by omega)
   rw [wrS (by omega),tl1 hp ih]
   cases tyB S R a (G++ [(nd x i).2.1])with
   |false=>rfl
   |true=>
    show some (bif decide ((((i+1)+a.flat.length:Nat):Int)<0)then-1 else(((i+1)+a.flat.length:Nat):Int))=some ((i+(Tr.un (nd x i) a).flat.length:Nat):Int);rw [LT,hfl,cond_false,show i+1+a.flat.length=i+(a.flat.length+1) by omega]
  refine Ad (Ah (show(nd x i).1≠2 by omega)) (Ad (Ah (show(nd x i).1≠3 by omega)) ?_)
  cases hvv:(decide ((nd x i).2.1<(S.length:Int))&& !decide (G.length=4))with
  |false=>
   rcases hk with e|e
   ·exact Aj (dT (show(nd x i).1=7 from e)) (Aj (dT (show(nd x i).1=7 from e)) ((hv _).trans (Aj (by rw [hvv];rfl) (nov hvv))))
   ·exact Ad (Ah (show(nd x i).1≠7 by omega)) (Aj (dT (show(nd x i).1=8 from e)) ((hv _).trans (Aj (by rw [hvv];rfl) (nov hvv))))
  |true=>
   refine tail _ ?_ hvv;rcases hk with e|e
   ·exact Aj (dT (show(nd x i).1=7 from e)) (Aj (dT (show(nd x i).1=7 from e)) ((hv _).trans (Ad (by rw [hvv];rfl) (Aa (p142 (G:=G) (by omega)) (inner hvv)))))
   ·exact Ad (Ah (show(nd x i).1≠7 by omega)) (Aj (dT (show(nd x i).1=8 from e)) ((hv _).trans (Ad (by rw [hvv];rfl) (Aa (p142 (G:=G) (by omega)) (inner hvv)))))
 | .bin k a b,ho,G,hc,i,ha,0,hn=>absurd hn (by have:=BN (.bin k a b);omega)
 | .bin k a b,ho,G,hc,i,ha,n+1,hn=>by
  obtain⟨hi,hnd,hle⟩:=Da ha;have hnd:nd x i=k:=hnd;have hx1:=hx.1;subst hnd;obtain⟨hk,hoa,hob⟩:=Kn ho;have hp:pts (nd x i)=2:=XB hk;have hfl:=C3 (nd x i) a b;obtain⟨ha1,ha2⟩:=KY ha;have ih1:=XJ hs hx a hoa G hc (i+1) ha1 n (by omega)
  have ih2:=XJ hs hx b hob G hc (i+1+a.flat.length) ha2 n (by omega)
  have inner:Im (R141 n) (S,R) G x (IntKind.wrap .i64 ((i:Int)+1)) (nd x i)=some (bif tyB S R (.bin (nd x i) a b) G then((i+(Tr.bin (nd x i) a b).flat.length:Nat):Int)else-1):=by
   show _=some (bif tyB S R a G&&tyB S R b G then _ else _);rw [wrS (by omega)]
   cases hta:tyB S R a G with
   |false=>
    rw [hta]at ih1;rw [tl2 (b:=0) hp ih1 (fun h=>by cases h)];rfl
   |true=>
    rw [hta]at ih1;rw [tl2 hp ih1 (fun _=>ih2)]
    show some (bif decide ((((i+1)+a.flat.length:Nat):Int)<0)then _ else _)=_;rw [LT,cond_false,Bool.true_and];cases tyB S R b G with
    |false=>rfl
    |true=>
     show some (bif decide ((((i+1+a.flat.length)+b.flat.length:Nat):Int)<0)then-1 else(((i+1+a.flat.length)+b.flat.length:Nat):Int))=some ((i+(Tr.bin (nd x i) a b).flat.length:Nat):Int);rw [LT,hfl,cond_false,show i+1+a.flat.length+b.flat.length=i+(a.flat.length+b.flat.length+1) by omega]
  exact Am (Ab hi) (Ad (Ah (show(nd x i).1≠2 by omega)) (Ad (Ah (show(nd x i).1≠3 by omega)) (Ad (Ah (show(nd x i).1≠7 by omega)) (Ad (Ah (show(nd x i).1≠8 by omega)) inner))))
def tyF(s:St)(G:List Int)(x:Fl):Bool:=tyB s.1 s.2 (tr x) G
theorem p112{S:List SF}{R:List Rl}(hs:StK (S,R)){x:Fl}(hx:C8 x)(hf:Dc x=true){G:List Int}(hc:CK S G):G112 ((S,R),(G,x))=some (tyF (S,R) G x):=by
 obtain⟨h1,h2,h3⟩:=NN hf;have hl:(tr x).flat.length<=40:=by rw [<-h2];exact h3
 refine Aa (XJ hs hx (tr x) h1 G hc 0 (Qd hf) 4096 (by omega)) ?_
 unfold tyF;cases tyB S R (tr x) G with
 |false=>rfl
 |true=>exact congrArg some (dT (by show(0:Int)<=((0+(tr x).flat.length:Nat):Int);omega))
end
end Go.Ve.D


namespace Go.Ve.D
open Go Go.Ve
noncomputable section
theorem ID{k:Nd}(h:A7 k=true)(h2:k.1≠2)(h3:k.1≠3):k.2.2= []:=by
 unfold A7 at h;rw [bAE,Ah h2,Ah h3]at h;obtain⟨_,h⟩:=h;apply List.length_eq_zero_iff.1;cases hb:(decide (k.1=7)||decide (k.1=8))with
 |true=>
  rw [hb]at h;simp only [cond_true,cond_false,bAE,decide_eq_true_eq]at h;exact h.2
 |false=>
  rw [hb]at h;simp only [cond_true,cond_false,bAE,decide_eq_true_eq]at h;exact h.2.2
theorem Ok{t:Tr}(h:t.ok=true):A7 t.top=true:=by
 cases t with
 |leaf k=>
  have h:(A7 k&&decide (pts k=0))=true:=h;rw [bAE]at h;exact h.1
 |un k a=>
  have h:((A7 k&&decide (pts k=1))&&a.ok)=true:=h;rw [bAE,bAE]at h;exact h.1.1
 |bin k a b=>
  have h:((A7 k&&decide (pts k=2))&&(a.ok&&b.ok))=true:=h;rw [bAE,bAE]at h;exact h.1.1
theorem OS{n:Int}{k:Nd}(h:k.2.2= []):wi n k.2.2=true:=by rw [h];rfl
theorem XL{S:List SF}{R:List Rl}(hs:StK (S,R)){x:Fl}(hx:C8 x): ∀t:Tr,t.ok=true->∀G:List Int,CK S G->∀i:Nat,At x i t->∀n,t.flat.length<=n->
  R106 n ((S,R),(G,(x,(i:Int))))=some (tyB S R t G)
 | .leaf k,ho,G,hc,i,ha,0,hn=>absurd hn (by have:=BN (.leaf k);omega)
 | .leaf k,ho,G,hc,i,ha,n+1,hn=>by
  obtain⟨hi,hnd,_⟩:=Da ha;have hnd:nd x i=k:=hnd;have hx1:=hx.1;have hal:=hx.nd hi;subst hnd;have hl:=hc.l;have hk:=LP ho;have hno:A7 (nd x i)=true:=Ok ho
  have hp:pts (nd x i)=0:=by
   have ho:(A7 (nd x i)&&decide (pts (nd x i)=0))=true:=ho;rw [bAE,decide_eq_true_eq]at ho;exact ho.2
  obtain⟨n4,n5,n6,n7,n8⟩:=pts0 hp;have e132:=W3 (n:=(G.length:Int)) hal;refine Am (Ab hi) ?_;show _=some (CM R (nd x i) G);unfold CM;rcases hk.c with e|e|⟨e,s0,s1⟩|⟨e,l2⟩
  ·rw [OS (ID hno (by omega) (by omega))]at e132
   rw [Ah (show(nd x i).1≠2 by omega),Ah (show(nd x i).1≠3 by omega)]
   exact Aa e132 (Ad rfl (Ad (Ah (show(nd x i).1≠2 by omega)) (Ad (Ah (show(nd x i).1≠3 by omega)) (Ad (Ah (show(nd x i).1≠4 by omega)) (Ad (Ah (show(nd x i).1≠5 by omega)) (Ad (Ah (show(nd x i).1≠6 by omega)) (Ad (Ah (show(nd x i).1≠7 by omega)) (Ad (Ah (show(nd x i).1≠8 by omega)) rfl))))))))
  ·rw [OS (ID hno (by omega) (by omega))]at e132
   rw [Ah (show(nd x i).1≠2 by omega),Ah (show(nd x i).1≠3 by omega)]
   exact Aa e132 (Ad rfl (Ad (Ah (show(nd x i).1≠2 by omega)) (Ad (Ah (show(nd x i).1≠3 by omega)) (Ad (Ah (show(nd x i).1≠4 by omega)) (Ad (Ah (show(nd x i).1≠5 by omega)) (Ad (Ah (show(nd x i).1≠6 by omega)) (Ad (Ah (show(nd x i).1≠7 by omega)) (Ad (Ah (show(nd x i).1≠8 by omega)) rfl))))))))
  ·rw [dT (show(nd x i).1=2 from e),cond_true]
   cases hw:wi (G.length:Int) (nd x i).2.2 with
   |false=>rw [hw]at e132;exact Aa e132 rfl
   |true=>
   rw [hw]at e132;refine Aa e132 (Ad rfl (Aj (dT (show(nd x i).1=2 from e)) ?_))
   by_cases hs2:(nd x i).2.1<(R.length:Int)
   ·have h1:decide (((R.length:Nat):Int)<=(nd x i).2.1)=false:=dF (by omega)
    have hr:=hs.rl ⟨s0,hs2⟩;have hrl:(rlA R (nd x i).2.1).1.length<=2:=hr.l;have hix:(0:Int)<=(nd x i).2.1/\(nd x i).2.1<(R.length:Int):=⟨s0,hs2⟩;refine Aa (v:=!decide (((nd x i).2.2.length:Int)=((rlA R (nd x i).2.1).1.length:Int))) (Ad h1 (Am hix rfl)) ?_;rw [dT hs2,Bool.true_and,Bool.true_and];by_cases hle:((nd x i).2.2.length:Int)=((rlA R (nd x i).2.1).1.length:Int)
    ·exact Ad (by rw [dT hle];rfl) (Aa (p122 hal hw) (Am hix (Aa (p133 (x:=thn (nd x i).2.2 G) (by rw [HJ];exact hal)) rfl)))
    ·refine Aj (by rw [dF hle];rfl) (congrArg some (dF (fun h=>hle ?_)).symm)
     rw [<-h,HJ]
   ·have h1:decide (((R.length:Nat):Int)<=(nd x i).2.1)=true:=dT (by omega)
    rw [dF hs2];exact Aa (v:=true) (Aj h1 rfl) (Aj rfl rfl)
  ·rw [Ah (show(nd x i).1≠2 by omega),dT (show(nd x i).1=3 from e),cond_false,cond_true]
   cases hw:wi (G.length:Int) (nd x i).2.2 with
   |false=>rw [hw]at e132;exact Aa e132 rfl
   |true=>
   rw [hw]at e132;refine Aa e132 (Ad rfl (Ad (Ah (show(nd x i).1≠2 by omega)) (Aj (dT (show(nd x i).1=3 from e)) ?_)))
   exact Am (show(0:Int)<=(0:Int)/\(0:Int)<((nd x i).2.2.length:Int) by omega) (Am (BB hw (i:=0) (by omega)) (Am (show(0:Int)<=(1:Int)/\(1:Int)<((nd x i).2.2.length:Int) by omega) (Am (BB hw (i:=1) (by omega)) rfl)))
 | .un k a,ho,G,hc,i,ha,0,hn=>absurd hn (by have:=BN (.un k a);omega)
 | .un k a,ho,G,hc,i,ha,n+1,hn=>by
  obtain⟨hi,hnd,hle⟩:=Da ha;have hnd:nd x i=k:=hnd;have hx1:=hx.1;have hl:=hc.l;have hal:=hx.nd hi;subst hnd;obtain⟨hk,⟨k0,k1⟩,ka,hoa⟩:=QW ho;have hno:A7 (nd x i)=true:=Ok ho;have hfl:=DW (nd x i) a;have e132:=W3 (n:=(G.length:Int)) hal;rw [OS (ID hno (by omega) (by omega))]at e132
  have hv: ∀K:Bool->Option Bool,Option.bind (bif decide ((S.length:Int)<=(nd x i).2.1)then some true else some (decide ((G.length:Int)=(4:Int)))) K=K (!(decide ((nd x i).2.1<(S.length:Int))&& !decide (G.length=4))):=fun K=>by
   have e1:decide ((S.length:Int)<=(nd x i).2.1)= !decide ((nd x i).2.1<(S.length:Int)):=by
    by_cases h:(nd x i).2.1<(S.length:Int)
    ·rw [dT h,dF (by omega)];rfl
    ·rw [dF h,dT (by omega)];rfl
   have e2:decide ((G.length:Int)=(4:Int))=decide (G.length=4):=decide_eq_decide.2 (by omega)
   rw [e1,e2];cases decide ((nd x i).2.1<(S.length:Int))<;>cases decide (G.length=4)<;>rfl
  refine Am (Ab hi) (Aa e132 (Ad rfl (Ad (Ah (show(nd x i).1≠2 by omega)) (Ad (Ah (show(nd x i).1≠3 by omega)) (Ad (Ah (show(nd x i).1≠4 by omega)) (Ad (Ah (show(nd x i).1≠5 by omega)) (Ad (Ah (show(nd x i).1≠6 by omega)) ?_)))))))
  show _=some ((decide ((nd x i).2.1<(S.length:Int))&& !decide (G.length=4))&&tyB S R a (G++ [(nd x i).2.1]));cases hvv:(decide ((nd x i).2.1<(S.length:Int))&& !decide (G.length=4))with
  |false=>
   rcases hk with e|e
   ·exact Aj (dT (show(nd x i).1=7 from e)) (Aj (dT (show(nd x i).1=7 from e)) ((hv _).trans (Aj (by rw [hvv];rfl) rfl)))
   ·exact Ad (Ah (show(nd x i).1≠7 by omega)) (Aj (dT (show(nd x i).1=8 from e)) ((hv _).trans (Aj (by rw [hvv];rfl) rfl)))
  |true=>
   have hvv':=hvv;rw [bAE,decide_eq_true_eq,Bool.not_eq_true',decide_eq_false_iff_not]at hvv';have hc':=CK.snoc hc ⟨k0,hvv'.1⟩ hvv'.2;have ih:=XL hs hx a hoa (G++ [(nd x i).2.1]) hc' (i+1) (Ui ha) n (by omega)
   rw [<-wrS (by omega)]at ih
   rw [Bool.true_and];rcases hk with e|e
   ·exact Aj (dT (show(nd x i).1=7 from e)) (Aj (dT (show(nd x i).1=7 from e)) ((hv _).trans (Ad (by rw [hvv];rfl) (Aa (p78 (x:=G) (by omega)) (Am (Q2 (a:=G) (by omega)) (Aa ih rfl))))))
   ·exact Ad (Ah (show(nd x i).1≠7 by omega)) (Aj (dT (show(nd x i).1=8 from e)) ((hv _).trans (Ad (by rw [hvv];rfl) (Aa (p78 (x:=G) (by omega)) (Am (Q2 (a:=G) (by omega)) (Aa ih rfl))))))
 | .bin k a b,ho,G,hc,i,ha,0,hn=>absurd hn (by have:=BN (.bin k a b);omega)
 | .bin k a b,ho,G,hc,i,ha,n+1,hn=>by
  obtain⟨hi,hnd,hle⟩:=Da ha;have hnd:nd x i=k:=hnd;have hx1:=hx.1;have hal:=hx.nd hi;subst hnd;obtain⟨hk,hoa,hob⟩:=Kn ho;have hno:A7 (nd x i)=true:=Ok ho;have hfl:=C3 (nd x i) a b;obtain⟨ha1,ha2⟩:=KY ha;have ih1:=XL hs hx a hoa G hc (i+1) ha1 n (by omega)
  have ih2:=XL hs hx b hob G hc (i+1+a.flat.length) ha2 n (by omega)
  have e94:=p94 hx1 ha1 hoa;have e132:=W3 (n:=(G.length:Int)) hal;rw [OS (ID hno (by omega) (by omega))]at e132
  rw [<-wrS (by omega)]at ih1
  rw [<-wrS (by omega)]at e94
  have key:Option.bind (R106 n ((S,R),(G,(x,IntKind.wrap .i64 ((i:Int)+1))))) (fun(v1:Bool)=>Option.bind (bif v1 then(Option.bind (G94 (x,IntKind.wrap .i64 ((i:Int)+1))) (fun(v2:Int)=>(Option.bind (R106 n ((S,R),(G,(x,v2)))) (fun(v3:Bool)=>(some v3)))))else(some false)) (fun(v2:Bool)=>(some v2)))=some (tyB S R (.bin (nd x i) a b) G):=by
   refine Aa ih1 ?_;show _=some (tyB S R a G&&tyB S R b G);cases tyB S R a G with
   |false=>rfl
   |true=>exact Aa (Aj rfl (Aa e94 (Aa ih2 rfl))) (by rw [Bool.true_and])
  refine Am (Ab hi) (Aa e132 (Ad rfl (Ad (Ah (show(nd x i).1≠2 by omega)) (Ad (Ah (show(nd x i).1≠3 by omega)) ?_))))
  rcases hk with e|e|e
  ·exact Aj (dT (show(nd x i).1=4 from e)) (Aj (dT (show(nd x i).1=4 from e)) key)
  ·exact Ad (Ah (show(nd x i).1≠4 by omega)) (Aj (dT (show(nd x i).1=5 from e)) (Aj (dT (show(nd x i).1=5 from e)) key))
  ·exact Ad (Ah (show(nd x i).1≠4 by omega)) (Ad (Ah (show(nd x i).1≠5 by omega)) (Aj (dT (show(nd x i).1=6 from e)) key))
def cxC(s:St)(G:List Int)(x:Fl):Int:=bif !(L2 s&&Dc x)then 1 else bif !Ij s.1 G then 2 else 0
theorem p64{S:List SF}{R:List Rl}{G:List Int}{x:Fl}(h:JJ (S,R))(hG:G.length<=1048576)(hx:C8 x):
  G64 ((S,R),(G,x))=some (bif !decide (cxC (S,R) G x=0)then cxC (S,R) G x else bif !tyF (S,R) G x then 5 else 0):=by
 unfold cxC;refine Aa (p103 h) ?_;cases hst:L2 (S,R)with
 |false=>rfl
 |true=>
 refine Aa (v:=!Dc x) (Ad rfl (Aa (p104 hx) rfl)) ?_;cases hf:Dc x with
 |false=>rfl
 |true=>
 refine Aa (p105 (R:=R) hG) ?_;show(bif !Ij S G then some 2 else _)=some (bif !decide ((bif false then 1 else bif !Ij S G then 2 else 0)=(0:Int))then(bif false then 1 else bif !Ij S G then 2 else 0)else _);cases hc:Ij S G with
 |false=>rfl
 |true=>
 obtain⟨h1,h2,h3⟩:=NN hf;have hl:(tr x).flat.length<=40:=by rw [<-h2];exact h3
 refine Aa (XL (Ks hst) hx (tr x) h1 G (KJ hc) 0 (Qd hf) 4096 (by omega)) ?_
 show(bif !tyF (S,R) G x then some 5 else some 0)=some (bif !tyF (S,R) G x then 5 else 0);cases tyF (S,R) G x<;>rfl
end
end Go.Ve.D


namespace Go.Ve.D
open Go Go.Ve
noncomputable section
theorem fl0{r:Aa7->Option (Bool×Int)}{s:St}{G:List Int}{x:Fl}{i:Int}{k:Nd}(hk:pts k=0):Mr r s G x i k=some (true,i):=by
 refine Aa (Z0 k) ?_;rw [hk];exact Aa (Jf (Ad rfl rfl)) rfl
theorem fl1{r:Aa7->Option (Bool×Int)}{s:St}{G:List Int}{x:Fl}{i j:Int}{a:Bool}{k:Nd}(hk:pts k=1)(h:r (s,(G,(x,i)))=some (a,j)):Mr r s G x i k=some (bif a then(true,j)else(false,-1)):=by
 refine Aa (Z0 k) ?_;rw [hk];cases a with
 |false=>exact Aa (Je (Aj rfl (Aa h (Aj rfl rfl)))) rfl
 |true=>exact Aa (Jd (y:=(j,0)) (Aj rfl (Aa h (Ad rfl rfl))) (Jf (Ad rfl rfl))) rfl
theorem fl2{r:Aa7->Option (Bool×Int)}{s:St}{G:List Int}{x:Fl}{i j l:Int}{a b:Bool}{k:Nd}(hk:pts k=2)(h:r (s,(G,(x,i)))=some (a,j))(h2:a=true->r (s,(G,(x,j)))=some (b,l)):
  Mr r s G x i k=some (bif a&&b then(true,l)else(false,-1)):=by
 refine Aa (Z0 k) ?_;rw [hk];cases a with
 |false=>exact Aa (Je (Aj rfl (Aa h (Aj rfl rfl)))) rfl
 |true=>
  refine Aa (Jd (y:=(j,1)) (Aj rfl (Aa h (Ad rfl rfl))) ?_) ?_ (v:=bif b then .brk 2 (l,0)else .ret (false,-1))
  ·cases b with
   |false=>exact Je (Aj rfl (Aa (h2 rfl) (Aj rfl rfl)))
   |true=>exact Jd (y:=(l,0)) (Aj rfl (Aa (h2 rfl) (Ad rfl rfl))) (Jf (Ad rfl rfl))
  ·cases b<;>rfl
theorem AaN{S:List SF}{G:List Int}{i:Nat}(hi:i<obN S):decide ((256:Int)<(Ik S G).getD i 0)= !decide (cnt S G (i:Int)<=256):=by
 rw [P2 hi];by_cases h:cnt S G (i:Int)<=256
 ·rw [dT h,dF (by omega)];rfl
 ·rw [dF h,dT (by omega)];rfl
theorem XK{S:List SF}{R:List Rl}(hs:StK (S,R)){x:Fl}(hx:C8 x): ∀t:Tr,t.ok=true->∀G:List Int,CK S G->tyB S R t G=true->∀i:Nat,At x i t->∀n,t.flat.length<=n->
  R113 n ((S,R),(G,(x,(i:Int))))=some (bif JU S t G then(true,((i+t.flat.length:Nat):Int))else(false,-1))
 |t,ho,G,hc,ht,i,ha,0,hn=>absurd hn (by have:=BN t;omega)
 |t,ho,G,hc,ht,i,ha,n+1,hn=>by
  obtain⟨hi,hnd,hle⟩:=Da ha;have hob:obN S<=8:=hs.sk.ob.2;have hx1:=hx.1;have hl:=hc.l
  have key: ∀ (V:Bool) (g:Nat->Int->Option (Bool×Int)),g 0 (((Ik S G).length:Nat):Int)=some (bif V then(true,((i+t.flat.length:Nat):Int))else(false,-1))->(PP S G&&V)=JU S t G->
    Option.bind (Ag (fun(v1:Int)=>(bif(decide (v1<(((Ik S G).length:Nat):Int)))then(if(((0:Int)<=v1)/\(v1<(((Ik S G).length:Nat):Int)))then(bif(decide ((256:Int)<((Ik S G).getD (v1).toNat (0:Int))))then(AM (some (false,(-(1:Int)))))else(some (LO.next (IntKind.wrap .i64 (v1+(1:Int))))))else none)else(some (LO.brk 0 v1)))) (0:Int)) (LO.fin g)=some (bif JU S t G then(true,((i+t.flat.length:Nat):Int))else(false,-1)):=by
   intro V g hg he;refine(JM (n:=(Ik S G).length) (p:=fun i=>decide (cnt S G (i:Int)<=256)) (id:=0) (r:=(false,(-1:Int))) (v:=bif V then(true,((i+t.flat.length:Nat):Int))else(false,-1)) (fun j hj=>?_) (Ad A1 rfl) (fun _=>hg)).trans ?_
   ·have hj':j<obN S:=by rw [IL]at hj;exact hj
    refine Aj (Cn hj) (Am (Ab hj) ((AaE (wrS (by omega))).trans ?_))
    show some (bif !decide ((256:Int)<(Ik S G).getD j 0)then _ else _)=_;rw [AaN hj',Bool.not_not]
   ·rw [IL,<-he]
    show some (bif PP S G then _ else _)=_;cases PP S G<;>rfl
  have tl: ∀k:Nd,(bif decide (k.1=7)then some true else some (decide (k.1=8)))=some (decide (k.1=7)||decide (k.1=8)):=fun k=>by cases decide (k.1=7)<;>rfl
  refine Aa (p116 hs.sk hc) ?_;cases t with
  |leaf k=>
   have hnd:nd x i=k:=hnd;subst hnd
   have hp:pts (nd x i)=0:=by
    have ho:(A7 (nd x i)&&decide (pts (nd x i)=0))=true:=ho;rw [bAE,decide_eq_true_eq]at ho;exact ho.2
   obtain⟨n4,n5,n6,n7,n8⟩:=pts0 hp;refine key true _ (Am rfl (Am (Ab hi) (Aa (v:=false) ?_ (Ad rfl ?_)))) (by rw [Bool.and_true];rfl)
   ·refine(tl (nd x i)).trans ?_
    rw [Ah n7,Ah n8];rfl
   ·show Mr (R113 n) (S,R) G x (IntKind.wrap .i64 ((i:Int)+1)) (nd x i)=_
    rw [wrS (by omega)]
    exact fl0 hp
  |un k a=>
   have hnd:nd x i=k:=hnd;subst hnd;obtain⟨hk,⟨k0,k1⟩,ka,hoa⟩:=QW ho;have hp:pts (nd x i)=1:=XC hk;have hfl:=DW (nd x i) a;have ht:((decide ((nd x i).2.1<(S.length:Int))&& !decide (G.length=4))&&tyB S R a (G++ [(nd x i).2.1]))=true:=ht;rw [bAE,bAE,decide_eq_true_eq,Bool.not_eq_true',decide_eq_false_iff_not]at ht;have hc':=CK.snoc hc ⟨k0,ht.1.1⟩ ht.1.2;have ih:=XK hs hx a hoa (G++ [(nd x i).2.1]) hc' ht.2 (i+1) (Ui ha) n (by omega)
   refine key (JU S a (G++ [(nd x i).2.1])) _ (Am rfl (Am (Ab hi) (Aa (v:=true) ?_ (Aj rfl (Aa (p142 (G:=G) (by omega)) ?_))))) rfl
   ·refine(tl (nd x i)).trans ?_
    rcases hk with e|e
    ·rw [dT e];rfl
    ·rw [dT e,Bool.or_true]
   ·show Mr (R113 n) (S,R) (G++ [(nd x i).2.1]) x (IntKind.wrap .i64 ((i:Int)+1)) (nd x i)=_
    rw [wrS (by omega)]
    cases hf:JU S a (G++ [(nd x i).2.1])with
    |false=>rw [hf,cond_false]at ih;exact(fl1 hp ih).trans rfl
    |true=>
     rw [hf]at ih;rw [fl1 hp ih,hfl,show i+1+a.flat.length=i+(a.flat.length+1) by omega]
  |bin k a b=>
   have hnd:nd x i=k:=hnd;subst hnd;obtain⟨hk,hoa,hob⟩:=Kn ho;have hp:pts (nd x i)=2:=XB hk;have hfl:=C3 (nd x i) a b;obtain⟨ha1,ha2⟩:=KY ha;have ht:(tyB S R a G&&tyB S R b G)=true:=ht;rw [bAE]at ht;have ih1:=XK hs hx a hoa G hc ht.1 (i+1) ha1 n (by omega)
   have ih2:=XK hs hx b hob G hc ht.2 (i+1+a.flat.length) ha2 n (by omega)
   refine key (JU S a G&&JU S b G) _ (Am rfl (Am (Ab hi) (Aa (v:=false) ?_ (Ad rfl ?_)))) rfl
   ·refine(tl (nd x i)).trans ?_
    rw [Ah (show(nd x i).1≠7 by omega),Ah (show(nd x i).1≠8 by omega)];rfl
   ·show Mr (R113 n) (S,R) G x (IntKind.wrap .i64 ((i:Int)+1)) (nd x i)=_
    rw [wrS (by omega)]
    cases hf:JU S a G with
    |false=>rw [hf,cond_false]at ih1;exact(fl2 (b:=false) (l:=-1) hp ih1 (fun h=>by cases h)).trans rfl
    |true=>
     rw [hf]at ih1;cases hg:JU S b G with
     |false=>rw [hg,cond_false]at ih2;exact(fl2 hp ih1 (fun _=>ih2)).trans rfl
     |true=>
      rw [hg]at ih2;rw [fl2 hp ih1 (fun _=>ih2),hfl,show i+1+a.flat.length+b.flat.length=i+(a.flat.length+b.flat.length+1) by omega]
theorem p119{S:List SF}{R:List Rl}{G:List Int}(hs:SK S)(hc:CK S G):G119 ((S,R),G)=some (PP S G):=by
 have ho:=hs.ob;have ho':=hs.ob';refine(JM (n:=obN S) (p:=fun i=>decide (cnt S G (i:Int)<=256)) (id:=0) (r:=false) (v:=true) (fun i hi=>?_) (Am hs.i0 (Ad (dF ?_) rfl)) (fun _=>Am rfl rfl)).trans ?_
 ·refine Am hs.i0 (Aj (dT ?_) (Aa (p144 hs hc hi) (Aa (v:=!decide (cnt S G (i:Int)<=256)) (Ad LT ?_) ?_)))
  ·show(i:Int)<(S.getD 0 sf0).1
   omega
  ·refine congrArg some ?_
   show decide ((256:Int)<((cnt S G (i:Int):Nat):Int))=_;by_cases h:cnt S G (i:Int)<=256
   ·rw [dT h,dF (by omega)];rfl
   ·rw [dF h,dT (by omega)];rfl
  ·refine(AaE (wrS (by omega))).trans ?_
   rw [Bool.not_not]
 ·show ¬ ((obN S:Nat):Int)<(S.getD 0 sf0).1
  omega
 ·show some (bif PP S G then true else false)=_
  cases PP S G<;>rfl
theorem p92T{S:List SF}{R:List Rl}(hs:StK (S,R)){x:Fl}(hx:C8 x): ∀t:Tr,t.ok=true->∀G:List Int,CK S G->tyB S R t G=true->∀i:Nat,At x i t->∀n,t.flat.length<=n->
  R92 n ((S,R),(G,(x,(i:Int))))=some (JU S t G)
 |t,ho,G,hc,ht,i,ha,0,hn=>absurd hn (by have:=BN t;omega)
 |t,ho,G,hc,ht,i,ha,n+1,hn=>by
  obtain⟨hi,hnd,hle⟩:=Da ha;have hx1:=hx.1;have hl:=hc.l;have e119:=p119 (R:=R) hs.sk hc;cases hf:PP S G with
  |false=>
   rw [hf]at e119;refine(Aa e119 (Aj rfl rfl)).trans ?_;cases t with
   |leaf k=>exact congrArg some hf.symm
   |un k a=>show _=some (PP S G&&_);rw [hf];rfl
   |bin k a b=>show _=some (PP S G&&_);rw [hf];rfl
  |true=>
  rw [hf]at e119;refine Aa e119 (Ad rfl (Am (Ab hi) (Aa (p93 (nd x i)) ?_)));cases t with
  |leaf k=>
   have hnd:nd x i=k:=hnd;subst hnd
   have hp:pts (nd x i)=0:=by
    have ho:(A7 (nd x i)&&decide (pts (nd x i)=0))=true:=ho;rw [bAE,decide_eq_true_eq]at ho;exact ho.2
   rw [hp];exact Ad rfl (Ad rfl (congrArg some hf.symm))
  |un k a=>
   have hnd:nd x i=k:=hnd;subst hnd;obtain⟨hk,⟨k0,k1⟩,ka,hoa⟩:=QW ho;have hp:pts (nd x i)=1:=XC hk;have hfl:=DW (nd x i) a;have ht:((decide ((nd x i).2.1<(S.length:Int))&& !decide (G.length=4))&&tyB S R a (G++ [(nd x i).2.1]))=true:=ht;rw [bAE,bAE,decide_eq_true_eq,Bool.not_eq_true',decide_eq_false_iff_not]at ht;have hc':=CK.snoc hc ⟨k0,ht.1.1⟩ ht.1.2;have ih:=p92T hs hx a hoa (G++ [(nd x i).2.1]) hc' ht.2 (i+1) (Ui ha) n (by omega)
   rw [<-wrS (by omega)]at ih
   rw [hp];show _=some (PP S G&&JU S a (G++ [(nd x i).2.1]));rw [hf,Bool.true_and];exact Ad rfl (Aj rfl (Aa (p78 (x:=G) (by omega)) (Am (Ab hi) (Am (Q2 (a:=G) (by omega)) (Aa ih rfl)))))
  |bin k a b=>
   have hnd:nd x i=k:=hnd;subst hnd;obtain⟨hk,hoa,hob⟩:=Kn ho;have hp:pts (nd x i)=2:=XB hk;have hfl:=C3 (nd x i) a b;obtain⟨ha1,ha2⟩:=KY ha;have ht:(tyB S R a G&&tyB S R b G)=true:=ht;rw [bAE]at ht;have ih1:=p92T hs hx a hoa G hc ht.1 (i+1) ha1 n (by omega)
   have ih2:=p92T hs hx b hob G hc ht.2 (i+1+a.flat.length) ha2 n (by omega)
   have e94:=p94 hx1 ha1 hoa;rw [<-wrS (by omega)]at ih1 e94
   rw [hp];show _=some (PP S G&&(JU S a G&&JU S b G));rw [hf,Bool.true_and];refine Aj rfl (Aa ih1 ?_);cases JU S a G with
   |false=>rfl
   |true=>exact Aa (Aj rfl (Aa e94 (Aa ih2 rfl))) (by rw [Bool.true_and])
def ftF(s:St)(G:List Int)(x:Fl):Bool:=JU s.1 (tr x) G
theorem p113{S:List SF}{R:List Rl}(hs:StK (S,R)){x:Fl}(hx:C8 x)(hf:Dc x=true){G:List Int}(hc:CK S G)(ht:tyF (S,R) G x=true):
  ∃j,G113 ((S,R),(G,(x,(0:Int))))=some (ftF (S,R) G x,j):=by
 obtain⟨h1,h2,h3⟩:=NN hf;have hl:(tr x).flat.length<=40:=by rw [<-h2];exact h3
 have h:=XK hs hx (tr x) h1 G hc ht 0 (Qd hf) 4096 (by omega)
 refine⟨bif JU S (tr x) G then((0+(tr x).flat.length:Nat):Int)else-1,h.trans ?_⟩;show _=some (JU S (tr x) G,_);cases JU S (tr x) G<;>rfl
def DI(s:St)(G:List Int)(x:Fl):Int:=bif !decide (cxC s G x=0)then cxC s G x else bif !tyF s G x then 5 else bif !ftF s G x then 3 else 0
theorem AaJ{s:St}{G:List Int}{x:Fl}(h:decide (cxC s G x=0)=true):L2 s=true/\Dc x=true/\Ij s.1 G=true:=by
 unfold cxC at h;cases h1:L2 s with
 |false=>rw [h1]at h;cases h
 |true=>
 cases h2:Dc x with
 |false=>rw [h1,h2]at h;cases h
 |true=>
 cases h3:Ij s.1 G with
 |false=>rw [h1,h2,h3]at h;cases h
 |true=>exact⟨rfl,rfl,rfl⟩
theorem p51{S:List SF}{R:List Rl}{G:List Int}{x:Fl}(h:JJ (S,R))(hG:G.length<=1048576)(hx:C8 x):G51 ((S,R),(G,x))=some (DI (S,R) G x):=by
 refine Aa (p64 h hG hx) ?_;unfold DI;cases h0:decide (cxC (S,R) G x=0)with
 |false=>
  refine Aa (v:=false) (Ad h0 rfl) rfl
 |true=>
 obtain⟨h1,h2,h3⟩:=AaJ h0;cases ht:tyF (S,R) G x with
 |false=>rfl
 |true=>
 obtain⟨g1,g2,g3⟩:=NN h2;have hl:(tr x).flat.length<=40:=by rw [<-g2];exact g3
 refine Aa (v:=!ftF (S,R) G x) (Aj rfl (Aa (p92T (Ks h1) hx (tr x) g1 G (KJ h3) ht 0 (Qd h2) 4096 (by omega)) rfl)) ?_
 cases ftF (S,R) G x<;>rfl
theorem p72{S:List SF}{R:List Rl}(hs:StK (S,R)){G:List Int}(hc:CK S G){L:List Fl}(hL:L.length<=2097152)(hx: ∀x∈L,C8 x)(hf: ∀x∈L,Dc x=true):
  G72 ((S,R),(G,L))=some (bif(List.range L.length).all (fun i=>tyF (S,R) G (L.getD i []))then(bif(List.range L.length).all (fun i=>ftF (S,R) G (L.getD i []))then 0 else 3)else 5):=by
 refine(JM (n:=L.length) (p:=fun i=>tyF (S,R) G (L.getD i [])) (id:=0) (r:=(5:Int)) (v:=bif(List.range L.length).all (fun i=>ftF (S,R) G (L.getD i []))then 0 else 3) (fun i hi=>?_) (Ad A1 rfl) (fun hall=>Am rfl ?_))
 ·have hm:=As (α:=Fl) [] hi
  exact Aj (Cn hi) (Am (Ab hi) (Aa (p112 hs (hx _ hm) (hf _ hm) hc) (fin1 (wrS (by omega)))))
 ·refine(JM (n:=L.length) (p:=fun i=>ftF (S,R) G (L.getD i [])) (id:=2) (r:=(3:Int)) (v:=0) (fun i hi=>?_) (Ad A1 rfl) (fun _=>Am rfl rfl))
  have hm:=As (α:=Fl) [] hi;obtain⟨j,hj⟩:=p113 hs (hx _ hm) (hf _ hm) hc (aET.1 hall i (List.mem_range.2 hi));exact Aj (Cn hi) (Am (Ab hi) (Aa hj (fin1 (wrS (by omega)))))
end
end Go.Ve.D


namespace Go.Ve.D
open Go Go.Ve
noncomputable section
theorem AI{X R:Type}{f:X->Option (LO X R)}{st:Nat->X}{n:Nat}{o:LO X R}{x:X}(h0:x=st 0)(h1: ∀i,i<n->f (st i)=some (.next (st (i+1))))(h2:f (st n)=some o)(ho: ∀y,o≠.next y):Ag f x=some o:=by
 subst h0;exact Ax h1 h2 ho
def row(S:List SF)(G:List Int)(f:Nat->Nat->Bool)(x:Nat):List Bool:=(List.range (cnt S G (x:Int))).map (f x)
def pre(S:List SF)(G:List Int)(f:Nat->Nat->Bool)(i:Nat):List (List Bool):=(List.range i).map (row S G f)
theorem Lw{S:List SF}{G:List Int}{f:Nat->Nat->Bool}{i:Nat}:pre S G f i++ [row S G f i]=pre S G f (i+1):=by
 unfold pre;rw [List.range_succ,List.map_append];rfl
theorem Oe{S:List SF}{G:List Int}{f:Nat->Nat->Bool}{i:Nat}:(pre S G f i).length=i:=by simp [pre]
theorem AS{S:List SF}{G:List Int}{f:Nat->Nat->Bool}{x:Nat}:(row S G f x).length=cnt S G (x:Int):=by simp [row]
theorem Bw{S:List SF}{G:List Int}{f:Nat->Nat->Bool}{x k:Nat}(hk:k<cnt S G (x:Int)):(row S G f x).getD k false=f x k:=ZM hk
theorem A6{S:List SF}{G:List Int}{f:Nat->Nat->Bool}{x:Nat}(hx:x<obN S):(mkV S G f).getD x []=row S G f x:=Aac hx
def rwI(n:Nat)(f:Nat->Bool)(j:Nat):List Bool:=(List.range n).map fun e=>if e<j then f e else false
theorem ZK{n:Nat}{f:Nat->Bool}:List.replicate n false=rwI n f 0:=by
 have:rwI n f 0=(List.range n).map fun _=>false:=List.map_congr_left fun e _=>if_neg (by omega)
 rw [this];simp [List.map_const']
theorem Lr{n:Nat}{f:Nat->Bool}{j:Nat}:(rwI n f j).length=n:=by simp [rwI]
theorem DQ{n:Nat}{f:Nat->Bool}{j:Nat}:(rwI n f j).set j (f j)=rwI n f (j+1):=by
 unfold rwI;rw [CV];refine List.map_congr_left fun e _=>?_
 by_cases h:e=j
 ·subst h;rw [if_pos rfl,if_pos (by omega)]
 ·rw [if_neg h]
  by_cases h1:e<j
  ·rw [if_pos h1,if_pos (by omega)]
  ·rw [if_neg h1,if_neg (by omega)]
theorem N2{S:List SF}{G:List Int}{f:Nat->Nat->Bool}{x:Nat}:rwI (cnt S G (x:Int)) (f x) (cnt S G (x:Int))=row S G f x:=by
 unfold rwI row;exact List.map_congr_left fun e he=>if_pos (List.mem_range.1 he)
theorem Aab{c:Int}(h0:0<=c)(h1:c<=65536):(0:Int)<=c/\(c<=c/\((1:Int)*c<=(281474976710656:Int)/\c<=(9223372036854775807:Int))):=by omega
theorem lenB{α:Type}{a:List α}{b:α}{n:Nat}(h:a.length<n):a.length+(b::([]:List α)).length<=n:=Q2 h
theorem p86{S:List SF}{R:List Rl}{G:List Int}{C:Cat}{b:Bool}(hs:SK S)(hc:CK S G):G86 (((S,R),C),(G,b))=some (mkV S G fun _ _=>b):=by
 have ho:=hs.ob;refine Aa (p116 hs hc) ?_;refine Aa (AI (st:=fun i:Nat=>((i:Int),(pre S G (fun _ _=>b) i,Ik S G))) (n:=obN S) (o:=.brk 0 ((obN S:Int),(pre S G (fun _ _=>b) (obN S),Ik S G))) rfl (fun i hi=>?_) ?_ (fun y=>by simp)) rfl
 ·have hcl:=C9 hs hc hi
  have eg:=P2 (G:=G) hi;have hlc:i<(Ik S G).length:=by rw [IL];exact hi
  have er:((Ik S G).getD i 0).toNat=cnt S G (i:Int):=by rw [eg,tNC]
  refine Aj (Cn hlc) (Am (Ab hlc) (Am (Aab (c:=(Ik S G).getD i 0) (by omega) (by omega)) ?_))
  refine Aa (AI (st:=fun j:Nat=>((j:Int),(pre S G (fun _ _=>b) i,(rwI (cnt S G (i:Int)) (fun _=>b) j,Ik S G)))) (n:=cnt S G (i:Int)) (o:=.brk 2 ((cnt S G (i:Int):Int),(pre S G (fun _ _=>b) i,(rwI (cnt S G (i:Int)) (fun _=>b) (cnt S G (i:Int)),Ik S G)))) ?_ (fun j hj=>?_) ?_ (fun y=>by simp)) ?_
  ·show((0:Int),(pre S G (fun _ _=>b) i,(List.replicate ((Ik S G).getD i 0).toNat false,Ik S G)))=_
   rw [er,ZK (f:=fun _=>b)];rfl
  ·have hj1:(j:Int)<((List.replicate ((Ik S G).getD i 0).toNat false).length:Int):=by rw [List.length_replicate,er];omega
   have hj2:(0:Int)<=(j:Int)/\(j:Int)<((rwI (cnt S G (i:Int)) (fun _=>b) j).length:Int):=by rw [Lr];exact Ab hj
   refine Aj (dT hj1) (Am hj2 ?_);show some (LO.next (IntKind.wrap .i64 ((j:Int)+1),(pre S G (fun _ _=>b) i,((rwI (cnt S G (i:Int)) (fun _=>b) j).set j b,Ik S G))))=_
   rw [show(rwI (cnt S G (i:Int)) (fun _=>b) j).set j b=rwI (cnt S G (i:Int)) (fun _=>b) (j+1)from DQ,wrS (by omega)]
  ·have hj1: ¬ ((cnt S G (i:Int):Int)<((List.replicate ((Ik S G).getD i 0).toNat false).length:Int)):=by rw [List.length_replicate,er];omega
   exact Ad (dF hj1) rfl
  ·refine Am rfl (Am trivial (Am (lenB (a:=pre S G (fun _ _=>b) i) (by rw [Oe];omega)) ?_))
   show some (LO.next (IntKind.wrap .i64 ((i:Int)+1),(pre S G (fun _ _=>b) i++ [rwI (cnt S G (i:Int)) (fun _=>b) (cnt S G (i:Int))],Ik S G)))=_
   rw [show rwI (cnt S G (i:Int)) (fun _=>b) (cnt S G (i:Int))=row S G (fun _ _=>b) i from N2 (f:=fun _ _=>b),Lw,wrS (by omega)]
 ·have hlc: ¬ ((obN S:Int)<((Ik S G).length:Int)):=by rw [IL];omega
  exact Ad (dF hlc) rfl
theorem p_pw{S:List SF}{G:List Int}(hs:SK S)(hc:CK S G){c:Bool×Bool->Option Bool}{h:Bool->Bool->Bool}(hh: ∀a b,c (a,b)=some (h a b))(f g:Nat->Nat->Bool):
  pw c (mkV S G f,(mkV S G g,()))=some (mkV S G fun x n=>h (f x n) (g x n)):=by
 have ho:=hs.ob;have hlf:(mkV S G f).length=obN S:=BA;have hlg:(mkV S G g).length=obN S:=BA;refine Aa (AI (st:=fun i:Nat=>((i:Int),pre S G (fun x n=>h (f x n) (g x n)) i)) (n:=obN S) (o:=.brk 0 ((obN S:Int),pre S G (fun x n=>h (f x n) (g x n)) (obN S))) rfl (fun i hi=>?_) ?_ (fun y=>by simp)) rfl
 ·have hcl:=C9 hs hc hi
  have ef:=A6 (G:=G) (f:=f) hi;have eg:=A6 (G:=G) (f:=g) hi;have hlc:i<(mkV S G f).length:=by rw [hlf];exact hi
  have hlc':i<(mkV S G g).length:=by rw [hlg];exact hi
  have er:((((mkV S G f).getD i []).length:Nat):Int).toNat=cnt S G (i:Int):=by rw [ef,AS,tNC]
  have el:((mkV S G f).getD i []).length=cnt S G (i:Int):=by rw [ef,AS]
  have el':((mkV S G g).getD i []).length=cnt S G (i:Int):=by rw [eg,AS]
  refine Aj (Cn hlc) (Am (Ab hlc) (Am (Aab (c:=((((mkV S G f).getD i []).length:Nat):Int)) (by omega) (by omega)) ?_))
  refine Aa (AI (st:=fun j:Nat=>((j:Int),(pre S G (fun x n=>h (f x n) (g x n)) i,rwI (cnt S G (i:Int)) (fun n=>h (f i n) (g i n)) j))) (n:=cnt S G (i:Int)) (o:=.brk 2 ((cnt S G (i:Int):Int),(pre S G (fun x n=>h (f x n) (g x n)) i,rwI (cnt S G (i:Int)) (fun n=>h (f i n) (g i n)) (cnt S G (i:Int))))) ?_ (fun j hj=>?_) ?_ (fun y=>by simp)) ?_
  ·show((0:Int),(pre S G (fun x n=>h (f x n) (g x n)) i,List.replicate ((((mkV S G f).getD i []).length:Nat):Int).toNat false))=_
   rw [er,ZK (f:=fun n=>h (f i n) (g i n))];rfl
  ·have hj1:(j:Int)<((List.replicate ((((mkV S G f).getD i []).length:Nat):Int).toNat false).length:Int):=by rw [List.length_replicate,er];omega
   have hj2:(0:Int)<=(j:Int)/\(j:Int)<((rwI (cnt S G (i:Int)) (fun n=>h (f i n) (g i n)) j).length:Int):=by rw [Lr];exact Ab hj
   have hjf:(0:Int)<=(j:Int)/\(j:Int)<(((mkV S G f).getD i []).length:Int):=by rw [el];exact Ab hj
   have hjg:(0:Int)<=(j:Int)/\(j:Int)<(((mkV S G g).getD i []).length:Int):=by rw [el'];exact Ab hj
   have e1:((mkV S G f).getD i []).getD j false=f i j:=by rw [ef,Bw hj]
   have e2:((mkV S G g).getD i []).getD j false=g i j:=by rw [eg,Bw hj]
   refine Aj (dT hj1) (Am (Ab hlc) (Am hjf (Am (Ab hlc') (Am hjg (Aa (hh _ _) (Am hj2 ?_))))));show some (LO.next (IntKind.wrap .i64 ((j:Int)+1),(pre S G (fun x n=>h (f x n) (g x n)) i,(rwI (cnt S G (i:Int)) (fun n=>h (f i n) (g i n)) j).set j (h (((mkV S G f).getD i []).getD j false) (((mkV S G g).getD i []).getD j false)))))=_
   rw [e1,e2,show(rwI (cnt S G (i:Int)) (fun n=>h (f i n) (g i n)) j).set j (h (f i j) (g i j))=rwI (cnt S G (i:Int)) (fun n=>h (f i n) (g i n)) (j+1)from DQ,wrS (by omega)]
  ·have hj1: ¬ ((cnt S G (i:Int):Int)<((List.replicate ((((mkV S G f).getD i []).length:Nat):Int).toNat false).length:Int)):=by rw [List.length_replicate,er];omega
   exact Ad (dF hj1) rfl
  ·refine Am rfl (Am trivial (Am (lenB (a:=pre S G (fun x n=>h (f x n) (g x n)) i) (by rw [Oe];omega)) ?_))
   show some (LO.next (IntKind.wrap .i64 ((i:Int)+1),pre S G (fun x n=>h (f x n) (g x n)) i++ [rwI (cnt S G (i:Int)) (fun n=>h (f i n) (g i n)) (cnt S G (i:Int))]))=_
   rw [show rwI (cnt S G (i:Int)) (fun n=>h (f i n) (g i n)) (cnt S G (i:Int))=row S G (fun x n=>h (f x n) (g x n)) i from N2 (f:=fun x n=>h (f x n) (g x n)),Lw,wrS (by omega)]
 ·have hlc: ¬ ((obN S:Int)<((mkV S G f).length:Int)):=by rw [hlf];omega
  exact Ad (dF hlc) rfl
theorem p10082{S:List SF}{G:List Int}(hs:SK S)(hc:CK S G)(f g:Nat->Nat->Bool):G10082 (mkV S G f,(mkV S G g,()))=some (mkV S G fun x n=>f x n&&g x n):=
 p_pw hs hc (c:=G188) (h:=fun a b=>a&&b) (fun a b=>by cases a<;>rfl) f g
theorem p20082{S:List SF}{G:List Int}(hs:SK S)(hc:CK S G)(f g:Nat->Nat->Bool):G20082 (mkV S G f,(mkV S G g,()))=some (mkV S G fun x n=>f x n||g x n):=
 p_pw hs hc (c:=G189) (h:=fun a b=>a||b) (fun a b=>by cases a<;>rfl) f g
theorem p30082{S:List SF}{G:List Int}(hs:SK S)(hc:CK S G)(f g:Nat->Nat->Bool):G30082 (mkV S G f,(mkV S G g,()))=some (mkV S G fun x n=>!f x n||g x n):=
 p_pw hs hc (c:=G190) (h:=fun a b=>!a||b) (fun a b=>by cases a<;>rfl) f g
def stp(c:Bool)(f:Nat->Nat->Bool)(i j x k:Nat):Bool:=bif decide (x<i)||(decide (x=i)&&decide (k<j))then f x k else c
theorem stp_0{S:List SF}{G:List Int}{c:Bool}{f:Nat->Nat->Bool}:mkV S G (stp c f 0 0)=mkV S G fun _ _=>c:=BK fun x _ k _=>by
 unfold stp;simp
theorem U2{S:List SF}{G:List Int}{c:Bool}{f:Nat->Nat->Bool}:mkV S G (stp c f (obN S) 0)=mkV S G f:=BK fun x hx k _=>by
 unfold stp;rw [dT hx];rfl
theorem Pe{S:List SF}{G:List Int}{c:Bool}{f:Nat->Nat->Bool}{i:Nat}:mkV S G (stp c f i (cnt S G (i:Int)))=mkV S G (stp c f (i+1) 0):=BK fun x hx k hk=>by
 unfold stp;by_cases h:x=i
 ·subst h
  rw [dT hk,dT (show x<x+1 by omega),dT (rfl:x=x)]
  simp
 ·rw [dF h]
  by_cases h1:x<i
  ·rw [dT h1,dT (show x<i+1 by omega)];rfl
  ·rw [dF h1,dF (show ¬x<i+1 by omega),dF (show ¬k<0 by omega)];simp
theorem U1{c:Bool}{f:Nat->Nat->Bool}{i j:Nat}:upd (stp c f i j) i j (f i j)=stp c f i (j+1):=by
 funext x k
 unfold upd stp;by_cases h:x=i/\k=j
 ·obtain⟨h1,h2⟩:=h
  subst h1;subst h2;rw [if_pos ⟨rfl,rfl⟩,dT (rfl:x=x),dT (show k<k+1 by omega)]
  simp
 ·rw [if_neg h]
  by_cases h1:x=i
  ·have h2:k≠j:=fun e=>h ⟨h1,e⟩
   have:decide (k<j)=decide (k<j+1):=decide_eq_decide.2 (by omega)
   rw [this]
  ·rw [dF h1];simp
theorem stp_at{c:Bool}{f:Nat->Nat->Bool}{i j:Nat}:stp c f i j i j=c:=by
 unfold stp;simp
theorem p_tld{S:List SF}{R:List Rl}{C:Cat}{G:List Int}(hs:SK S)(hc:CK S G){c:Int×List Int->Option Bool}{f:Nat->Nat->Bool}
  (hh: ∀x,x<obN S->∀k,k<cnt S G (x:Int)->c ((x:Int),D8 (szs S G (x:Int)) k)=some (f x k)):tld c ((S,R),C) G=some (mkV S G f):=by
 have ho:=hs.ob;refine Aa (p86 hs hc) ?_;have hl0:(mkV S G fun _ _=>false).length=obN S:=BA
 refine Aa (AI (st:=fun i:Nat=>((i:Int),mkV S G (stp false f i 0))) (n:=obN S) (o:=.brk 0 ((obN S:Int),mkV S G (stp false f (obN S) 0))) (congrArg (fun v=>((0:Int),v)) stp_0.symm) (fun i hi=>?_) ?_ (fun y=>by simp)) (congrArg some U2)
 ·have hcl:=C9 hs hc hi
  have hlv: ∀g,(mkV S G g).length=obN S:=fun g=>BA
  have hli:(0:Int)<=(i:Int)/\(i:Int)<((mkV S G (stp false f i 0)).length:Int):=by rw [hlv];exact Ab hi
  have hbd:(((mkV S G (stp false f i 0)).getD i []).length:Int)=(cnt S G (i:Int):Int):=by rw [A6 hi,AS]
  refine Aj (dT (show(i:Int)<((mkV S G fun _ _=>false).length:Int) by rw [hl0];omega)) (Am hli (Aa (p71 hs hc hi) ?_))
  refine Aa (AI (st:=fun j:Nat=>((i:Int),((j:Int),(mkV S G (stp false f i j),szs S G (i:Int))))) (n:=cnt S G (i:Int)) (o:=.brk 2 ((i:Int),((cnt S G (i:Int):Int),(mkV S G (stp false f i (cnt S G (i:Int))),szs S G (i:Int))))) rfl (fun j hj=>?_) ?_ (fun y=>by simp)) ?_
  ·have e1:(mkV S G (stp false f i j)).getD i []=row S G (stp false f i j) i:=A6 hi
   have hj1:(j:Int)<(((mkV S G (stp false f i 0)).getD i []).length:Int):=by rw [hbd];omega
   have hj2:(0:Int)<=(j:Int)/\(j:Int)<(((mkV S G (stp false f i j)).getD i []).length:Int):=by rw [e1,AS];exact Ab hj
   refine Aj (dT hj1) (Aa (p77 (CK.few hs hc hi) (KE hj) hj) (Aa (hh i hi j hj) (Am hj2 ?_)));show some (LO.next ((i:Int),(IntKind.wrap .i64 ((j:Int)+1),((mkV S G (stp false f i j)).set i (((mkV S G (stp false f i j)).getD i []).set j (f i j)),szs S G (i:Int)))))=_
   rw [e1,show(mkV S G (stp false f i j)).set i ((row S G (stp false f i j) i).set j (f i j))=mkV S G (upd (stp false f i j) i j (f i j))from LU hi,U1,wrS (by omega)]
  ·exact Ad (dF (show ¬ ((cnt S G (i:Int):Int)<(((mkV S G (stp false f i 0)).getD i []).length:Int)) by rw [hbd];omega)) rfl
  ·refine Am rfl ?_
   show some (LO.next (IntKind.wrap .i64 ((i:Int)+1),mkV S G (stp false f i (cnt S G (i:Int)))))=_
   rw [Pe,wrS (by omega)]
 ·exact Ad (dF (show ¬ ((obN S:Int)<((mkV S G fun _ _=>false).length:Int)) by rw [hl0];omega)) rfl
theorem UG{f g:List Int}{i:Nat}(hi:i<f.length):(thn f g).getD i 0=g.getD (f.getD i 0).toNat 0:=by
 unfold thn;rw [gDE,List.getElem?_map,List.getElem?_range hi];rfl
structure RLf(S:List SF)(R:List Rl)(k:Nd)(G:List Int):Prop where
 w:wi (G.length:Int) k.2.2=true
 l:k.2.2.length<=2
 s:0<=k.2.1/\k.2.1<(R.length:Int)
 e:thn k.2.2 G=(rlA R k.2.1).1
theorem RLf.nm{S:List SF}{R:List Rl}{k:Nd}{G:List Int}(h:RLf S R k G)(hs:SK S)(hc:CK S G){x n:Nat}(hx:x<obN S)(hn:n<cnt S G (x:Int)):
  wi ((D8 (szs S G (x:Int)) n).length:Int) k.2.2=true/\(thn k.2.2 (D8 (szs S G (x:Int)) n)).length=(szs S (rlA R k.2.1).1 (x:Int)).length/\
  ∀i,i<(szs S (rlA R k.2.1).1 (x:Int)).length->0<=(thn k.2.2 (D8 (szs S G (x:Int)) n)).getD i 0/\(thn k.2.2 (D8 (szs S G (x:Int)) n)).getD i 0<(szs S (rlA R k.2.1).1 (x:Int)).getD i 0:=by
 have hl:(rlA R k.2.1).1.length=k.2.2.length:=by rw [<-h.e,HJ]
 refine⟨by rw [K6,BG];exact h.w,by rw [HJ,BG,hl],fun i hi=>?_⟩
 rw [BG,hl]at hi;obtain⟨w0,w1⟩:=BB h.w hi;have hv:(k.2.2.getD i 0).toNat<G.length:=by omega
 have hvl:(k.2.2.getD i 0).toNat<(szs S G (x:Int)).length:=by rw [BG];exact hv
 have hd:=Y4 (CK.few hs hc hx) (k:=n) hvl (KE hn _ hvl);rw [UG hi,Xf hvl,Lh (by rw [hl];exact hi),<-h.e,UG hi]
 rw [Lh hv]at hd;exact hd
theorem p185{S:List SF}{R:List Rl}{C:Cat}{k:Nd}{G:List Int}(hk:StK (S,R))(hR: ∀r∈R,okR r)(hc:CK S G)(h:RLf S R k G){x n:Nat}(hx:x<obN S)(hn:n<cnt S G (x:Int)):
  G185 ((x:Int),(D8 (szs S G (x:Int)) n,(((S,R),C),(rlA R k.2.1,k))))=some (((rlA R k.2.1).2.getD x []).contains ((num (szs S (rlA R k.2.1).1 (x:Int)) (thn k.2.2 (D8 (szs S G (x:Int)) n)):Nat):Int)):=by
 have hr:RK S (rlA R k.2.1):=hk.rl h.s;obtain⟨h1,h2,h3⟩:=h.nm hk.sk hc hx hn;have hm:(0:Int)<=(x:Int)/\(x:Int)<((rlA R k.2.1).2.length:Int):=by rw [hr.m];exact Ab hx
 have hok:okR (rlA R k.2.1):=hR _ (As rl0 (by have:=h.s;omega))
 have hl2:=h.l;refine Aa (p71 hk.sk hr.ck hx) (Aa (p160 (by show k.2.2.length<=1048576;omega) h1) (Aa (p70 (CK.few hk.sk hr.ck hx) h2 h3) (Am hm (Aa (p153 (CB hok x) _) rfl))))
end
end Go.Ve.D

