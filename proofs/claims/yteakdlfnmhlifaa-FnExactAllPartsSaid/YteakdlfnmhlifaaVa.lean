/- The abstract values of a small machine over trees. -/
import Derived.WalkKit
import Derived.Below
import Derived.Lib.LaidTab
import Derived.Lib.ItoaNum
open Nat(le_refl blt)
set_option linter.all false
namespace Go.Ve
variable{cs:Array Value}{own s:Bool}{B b cap g i m n o:Nat}{D D' fp:Nat->Prop}{p:Prop}{α:Type _}{T:TypeId}{cv:Value}{w w':World}
def dT[inst:Decidable p](h:p):decide p=true:=decide_eq_true h
def dF[inst:Decidable p](h:¬p):decide p=false:=decide_eq_false h
def bqE(h:n.beq m=true):n=m:=Nat.eq_of_beq_eq_true h
def blE(h:n.ble m=true):n<=m:=Nat.le_of_ble_eq_true h
def gAR{l1 l2:List α}(h:l1.length<=i):(l1++l2)[i]? =l2[i-l1.length]?:=List.getElem?_append_right h
def gAL{l1 l2:List α}(h:i<l1.length):(l1++l2)[i]? =l1[i]?:=List.getElem?_append_left h
def tNC(n:Nat):(n:Int).toNat=n:=Int.toNat_natCast n
def mCM{a:α}{l:List α}(y:α)(h:a∈l):a∈y::l:=List.mem_cons_of_mem y h
def gDE{l:List α}{a:α}:l.getD i a=l[i]?.getD a:=List.getD_eq_getElem?_getD
def bAE(a b:Bool):((a&&b)=true)=(a=true/\b=true):=Bool.and_eq_true a b
def aET{p:α->Bool}{l:List α}:l.all p=true<->∀x,x∈l->p x=true:=List.all_eq_true
def gEE{l:List α}(h:i<l.length):l[i]? =some l[i]:=List.getElem?_eq_getElem h
structure Below(B:Nat)(w w':World):Prop where
 os:w'.os=w.os
 tape:w'.tape=w.tape
 output:w'.output=w.output
 size:w.heap.size<=w'.heap.size
 block:∀k,k<B->w'.heap[k]? =w.heap[k]?
 drawn:w.drawn<=w'.drawn
def Below.refl(B:Nat)(w:World):Below B w w:=⟨rfl,rfl,rfl,le_refl _,λ_ _=>rfl,le_refl _⟩
theorem Below.trans{B:Nat}{a b c:World}(h:Below B a b)(k:Below B b c):Below B a c:=
 ⟨k.os.trans h.os,k.tape.trans h.tape,k.output.trans h.output,Nat.le_trans h.size k.size,λi hi=>(k.block i hi).trans (h.block i hi),Nat.le_trans h.drawn k.drawn⟩
def Below.mono{B':Nat}(h:Below B w w')(u:B'<=B):Below B' w w':=⟨h.os,h.tape,h.output,h.size,λk e=>h.block k (Nat.lt_of_lt_of_le e u),h.drawn⟩
def Below.heap_alloc(w:World)(o:Obj)(k:Nat)(h:k<w.heap.size):(w.alloc o).heap[k]? =w.heap[k]?:=RowKit.Below.heap_alloc w o k h
def Below.heap_setCell(w:World)(a:Addr)(u:Value)(k:Nat)(h:k≠a.block):(w.setCell a u).heap[k]? =w.heap[k]?:=RowKit.Below.heap_setCell w a u k h
def Below.alloc{B:Nat}{a w:World}(h:Below B a w)(u:B<=w.heap.size)(o:Obj):Below B a (w.alloc o):=
 h.trans ⟨rfl,rfl,rfl,by simp,λk e=>Below.heap_alloc _ _ _ (by omega),le_refl _⟩
def Below.setCell{B:Nat}{a w:World}(h:Below B a w){p:Addr}(e:B<=p.block)(u:Value):Below B a (w.setCell p u):=
 h.trans ⟨rfl,rfl,rfl,by simp[World.setCell],λk A=>Below.heap_setCell _ _ _ _ (by omega),le_refl _⟩
def Below.row(h:Below B w w'):RowKit.Below B w w':=⟨h.os,h.tape,h.output,h.size,h.block⟩
inductive Tg where
 |ag|tu|bx|cl (g:Nat)
deriving DecidableEq
inductive V where
 |c (v:Value)
 |dead
 |many (t:Tg) (n:Nat) (f:Nat->V)
 |nd (s own:Bool) (sz n:Nat) (f:Nat->Nat->V)
 |rs (id:Nat) (p:List (Nat×Nat)) (off len:Nat)
 |rp (id:Nat) (p:List (Nat×Nat)) (i k:Nat)
 |rm (id:Nat) (p:List (Nat×Nat))
 |mp (own:Bool) (l:List (Value×Value))
variable{v v':V}{R:V->Value->Prop}
instance:Inhabited V:=⟨.dead⟩
def Ay(s:Bool)(b o n cap:Nat):Value:=if s then .slice (some ⟨b,o,none⟩) n cap else .pointer (some ⟨b,o,none⟩)
def nilS(cv:Value):Prop:=∃a:Option Addr,cv=.slice a 0 0/\∀x,a=some x->x.spot≠none
def Yg:nilS (.slice none 0 0):=⟨none,rfl,λ_ e=>by cases e⟩
def Qr:¬nilS (Ay s b o n cap):=by
 rintro ⟨a,e,h⟩
 cases s with
 |false=>cases e
 |true=>
  cases e;exact h _ rfl rfl
def AdN(own:Bool)(cv:Value):Prop:=cv=.slice none 0 0\/(own=false/\nilS cv)
def DZ(h:AdN true cv):cv=.slice none 0 0:=h.resolve_right λe=>by cases e.1
def BP:¬AdN own (Ay s b o n cap):=by
 rintro (h|⟨_,h⟩)
 .cases s<;>cases h
 .exact Qr h
def UH(h:AdN own cv):AdN false cv:=h.elim .inl λh=>.inr ⟨rfl,h.2⟩
def CF(h:AdN own cv):∃a,cv=.slice a 0 0:=h.elim (λh=>⟨none,h⟩) fun⟨_,a,h,_⟩=>⟨a,h⟩
def noR:V->Value->Prop:=λ_ _=>False
def noF:Nat->Prop:=λ_=>False
def WJ(g:Nat)(cs:Array Value):Value:=bif blt g 1000000 then .func (.func g) #[] cs else .iface (g-1000000) (cs.getD 0 undef)
def Pq(h:blt g 1000000=true):WJ g cs=.func (.func g) #[] cs:=by unfold WJ;rw[h];rfl
def AbM{t:Nat}:WJ (1000000+t) cs=.iface t (cs.getD 0 undef):=by
 unfold WJ
 have h:blt (1000000+t) 1000000=false:=by
  cases e:blt (1000000+t) 1000000 with
  |false=>rfl
  |true=>
   have:=blE e;omega
 rw[h,cond_false,Nat.add_sub_cancel_left]
def AaT:(WJ g cs).oneCell'=true:=by
 unfold WJ;cases blt g 1000000<;>rfl
def LJ(D:Nat->Prop)(w:World):Tg->Array Value->Value->Prop
 |.ag,cs,cv=>cv=.agg cs
 |.tu,cs,cv=>cv=.tuple cs
 |.cl g,cs,cv=>cv=WJ g cs
 |.bx,cs,cv=>∃b o,cv=.pointer (some ⟨b,o,none⟩)/\(0<cs.size->D b)/\∀k,k<cs.size->w.cell? ⟨b,o+k,none⟩=some (cs.getD k undef)
def QO{a:Addr}(h:w'.heap[a.block]? =w.heap[a.block]?):w'.cell? a=w.cell? a:=by
 unfold World.cell?;rw[h]
theorem LJ.mono{t:Tg}(h:LJ D w t cs cv)(F:∀b,D b->D' b)(u:∀b,D b->w'.heap[b]? =w.heap[b]?):LJ D' w' t cs cv:=by
 cases t with
 |ag=>exact h
 |tu=>exact h
 |cl g=>exact h
 |bx=>
  obtain⟨b,o,J,e,H⟩:=h;exact⟨b,o,J,λA=>F b (e A),λk E=>(QO (w:=w) (u b (e (by omega)))).trans (H k E)⟩
def BW(w:World)(b:Nat)(cs:Array Value)(T:TypeId):Prop:=∃fz:Nat×Nat,w.heap[b]? =some (.cells cs T fz)/\(fz=(0,0)\/cs.size<=fz.1)
def BW.same(h:BW w b cs T)(e:w'.heap[b]? =w.heap[b]?):BW w' b cs T:=by
 obtain⟨fz,A,u⟩:=h;exact⟨fz,e.trans A,u⟩
def BW.plain(h:w.heap[b]? =some (.cells cs T (0,0))):BW w b cs T:=⟨_,h,.inl rfl⟩
def BW.frozen{w:World}{b off:Nat}{cs:Array Value}{T:TypeId}{y:Value}(h:BW w b cs T)(e:w.cell? ⟨b,off,none⟩=some y):w.frozen? ⟨b,off,none⟩=false:=by
 obtain⟨⟨u,hi⟩,h1,h2⟩:=h;unfold World.cell? at e;simp only[h1,Option.isSome_none,Bool.false_eq_true,if_false]at e;have A:off<cs.size:=(Array.getElem?_eq_some_iff.1 e).1;unfold World.frozen?;rcases h2 with h2|h2
 .cases h2;simp[h1]
 .have E:cs.size<=u:=h2
  simp[h1];omega
def BW.lt(h:BW w b cs T):b<w.heap.size:=by
 obtain⟨_,h,_⟩:=h;exact(Array.getElem?_eq_some_iff.1 h).1
def Abf:Option (Nat×Array Value):=none
def Wok(w:World):Prop:=∀p,Abf=some p->∃T fz,w.heap[p.1]? =some (.cells p.2 T fz)
theorem wok0(h:Abf=none)(w:World):Wok w:=λp e=>by rw[h]at e;cases e
def Wok.lt(h:Wok w){p:Nat×Array Value}(e:Abf=some p):p.1<w.heap.size:=by
 obtain⟨_,_,h⟩:=h p e;exact(Array.getElem?_eq_some_iff.1 h).1
def Wok.same(h:Wok w)(u:∀p,Abf=some p->w'.heap[p.1]? =w.heap[p.1]?):Wok w':=λp e=>by
 rw[u p e];exact h p e
def V8(w:World)(b:Nat)(l:List (Value×Value)):Prop:=∃A u,w.heap[b]? =some (.map A u)/\A.toList.map (λe=>(e.key,e.val))=l
def V8.same{l:List (Value×Value)}(h:V8 w b l)(e:w'.heap[b]? =w.heap[b]?):V8 w' b l:=by
 obtain⟨E,c,A,u⟩:=h;exact⟨E,c,e.trans A,u⟩
def V8.lt{l:List (Value×Value)}(h:V8 w b l):b<w.heap.size:=by
 obtain⟨A,c,e,u⟩:=h;exact(Array.getElem?_eq_some_iff.1 e).1
def Rel(D:Nat->Prop)(w:World):(V->Value->Prop)->V->Value->(Nat->Prop)->Prop
 |_,.c v,cv,fp=>cv=v/\v.oneCell'=true/\∀b,¬fp b
 |_,.dead,_,fp=>∀b,¬fp b
 |R,.many t n f,cv,fp=>∃(cs:Array Value) (F:Nat->Nat->Prop),LJ D w t cs cv/\cs.size=n/\
   (∀k,k<n->Rel D w R (f k) (cs.getD k undef) (F k))/\(∀k k' b,k<n->k'<n->k≠k'->F k b->¬F k' b)/\∀b,fp b↔ ∃k,k<n/\F k b
 |_,.nd s own sz n f,cv,fp=>(n=0/\s=true/\AdN own cv/\∀b,¬fp b)\/
   ∃(b o cap:Nat) (F:Nat->Nat->Nat->Prop),cv=Ay s b o n cap/\n<=cap/\n<=maxLen/\(s=false->n=1)/\
    (∀i k,i<n->k<sz->∃x,w.cell? ⟨b,o+i*sz+k,none⟩=some x/\Rel D w noR (f i k) x (F i k))/\
    (own=false->(0<n*sz->D b)/\(∀i k x,i<n->k<sz->¬F i k x)/\∀x,¬fp x)/\
    (own=true->(∃cs T,BW w b cs T/\o+cap*sz<=cs.size)/\
     (∀i k,i<n->k<sz->¬F i k b)/\
     (∀i k i' k' x,i<n->k<sz->i'<n->k'<sz->(i≠i'\/k≠k')->F i k x->¬F i' k' x)/\
     ∀x,fp x↔x=b\/∃i k,i<n/\k<sz/\F i k x)
 |R,.rs id p off len,cv,fp=>R (.rs id p off len) cv/\∀b,¬fp b
 |R,.rp id p i k,cv,fp=>R (.rp id p i k) cv/\∀b,¬fp b
 |R,.rm id p,cv,fp=>R (.rm id p) cv/\∀b,¬fp b
 |_,.mp own l,cv,fp=>∃b,cv=.map (some b)/\V8 w b l/\(own=false->D b/\∀x,¬fp x)/\(own=true->∀x,fp x↔x=b)
def Dn{a:Addr}(h:w'.heap[a.block]? =w.heap[a.block]?):w'.cell? a=w.cell? a:=by
 unfold World.cell?;rw[h]
theorem Rel.mono'{w w':World}(hD:∀b,D b->D' b):
  ∀(v:V) (R R':V->Value->Prop) (u:∀v cv,R v cv->R' v cv) (cv:Value) (fp:Nat->Prop),(∀b,D b\/fp b->w'.heap[b]? =w.heap[b]?)->Rel D w R v cv fp->Rel D' w' R' v cv fp:=by
 intro v
 induction v with
 |c v=>intro R R' u cv fp _ h;exact h
 |dead=>intro R R' u cv fp _ h;exact h
 |many t n f ih=>
  intro R R' u cv fp H h;obtain⟨cs,F,E,hn,hr,hd,hf⟩:=h;exact⟨cs,F,E.mono hD (λb hb=>H b (.inl hb)),hn,λk U=>ih k R R' u _ _ (λb hb=>H b (hb.imp id λh=>(hf b).2 ⟨k,U,h⟩)) (hr k U),hd,hf⟩
 |nd s own sz n f ih=>
  intro R R' u cv fp H h;rcases h with h|⟨b,o,cap,F,E,hcap,Z,hs,hr,hi,ho⟩
  .exact .inl h
  refine .inr ⟨b,o,cap,F,E,hcap,Z,hs,?_,?_,?_⟩
  .intro i k O U
   obtain⟨x,hx,Y⟩:=hr i k O U;cases own with
   |false=>
    obtain⟨J,W,h3⟩:=hi rfl;have hb:D b:=J (Nat.mul_pos (by omega) (by omega))
    refine⟨x,by rw[Dn (w:=w) (H b (.inl hb))];exact hx,ih i k noR noR (λ_ _ h=>h) _ _ (λc hc=>H c (hc.imp id λh=>absurd h (W i k c O U))) Y⟩
   |true=>
    obtain⟨J,W,h3,h4⟩:=ho rfl;refine⟨x,by rw[Dn (w:=w) (H b (.inr ((h4 b).2 (.inl rfl))))];exact hx,ih i k noR noR (λ_ _ h=>h) _ _ (λc hc=>H c (hc.imp id λh=>(h4 c).2 (.inr ⟨i,k,O,U,h⟩))) Y⟩
  .intro A
   obtain⟨J,W,h3⟩:=hi A;exact⟨λh=>hD _ (J h),W,h3⟩
  .intro A
   obtain⟨⟨cs,T,J,h1'⟩,W,h3,h4⟩:=ho A;exact⟨⟨cs,T,J.same (H b (.inr ((h4 b).2 (.inl rfl)))),h1'⟩,W,h3,h4⟩
 |rs id p off len=>intro R R' u cv fp _ h;exact⟨u _ _ h.1,h.2⟩
 |rp id p i k=>intro R R' u cv fp _ h;exact⟨u _ _ h.1,h.2⟩
 |rm id p=>intro R R' u cv fp _ h;exact⟨u _ _ h.1,h.2⟩
 |mp own l=>
  intro R R' u cv fp H h;obtain⟨b,E,hm,h0,J⟩:=h;refine⟨b,E,hm.same (H b ?_),λe=>⟨hD _ (h0 e).1,(h0 e).2⟩,J⟩
  cases own with
  |false=>exact .inl (h0 rfl).1
  |true=>exact .inr ((J rfl b).2 rfl)
def Rel.mono{w w':World}{R':V->Value->Prop}(A:∀b,D b->D' b)(u:∀v cv,R v cv->R' v cv)
  (v:V) (cv:Value) (fp:Nat->Prop) (h:∀b,D b\/fp b->w'.heap[b]? =w.heap[b]?) (e:Rel D w R v cv fp):Rel D' w' R' v cv fp:=Rel.mono' A v R R' u cv fp h e
theorem Rel.lt':∀(v:V) (R:V->Value->Prop) (cv:Value) (fp:Nat->Prop),Rel D w R v cv fp->∀b,fp b->b<w.heap.size:=by
 intro v
 induction v with
 |c v=>intro R cv fp h b e;exact absurd e (h.2.2 b)
 |dead=>intro R cv fp h b e;exact absurd e (h b)
 |many t n f A=>
  intro R cv fp h b e;obtain⟨cs,F,u,hn,H,hd,hf⟩:=h;obtain⟨k,J,e⟩:=(hf b).1 e;exact A k _ _ _ (H k J) b e
 |nd s own sz n f A=>
  intro R cv fp h b e;rcases h with h|⟨b',o,cap,F,u,Y,W,hs,H,hi,Z⟩
  .exact absurd e (h.2.2.2 b)
  cases own with
  |false=>exact absurd e ((hi rfl).2.2 b)
  |true=>
   obtain⟨⟨cs,T,U,h1'⟩,h2,h3,h4⟩:=Z rfl;rcases(h4 b).1 e with rfl|⟨i,k,O,J,hF⟩
   .exact U.lt
   .obtain⟨x,hx,E⟩:=H i k O J
    exact A i k _ _ _ E b hF
 |rs id p off len=>intro R cv fp h b e;exact absurd e (h.2 b)
 |rp id p i k=>intro R cv fp h b e;exact absurd e (h.2 b)
 |rm id p=>intro R cv fp h b e;exact absurd e (h.2 b)
 |mp own l=>
  intro R cv fp h b e;obtain⟨b',u,hm,h0,U⟩:=h;cases own with
  |false=>exact absurd e ((h0 rfl).2 b)
  |true=>rw[(U rfl b).1 e];exact hm.lt
def Rel.lt(v:V)(cv:Value)(fp:Nat->Prop)(h:Rel D w R v cv fp):∀b,fp b->b<w.heap.size:=Rel.lt' v R cv fp h
def Rel.fp_congr{e:Nat->Prop}(h:∀b,fp b↔e b)(u:Rel D w R v cv fp):Rel D w R v cv e:=by
 have:fp=e:=funext λb=>propext (h b)
 rw[<-this];exact u
def frz:V->V
 |.nd s _ sz n f=>.nd s false sz n λi k=>frz (f i k)
 |.many t n f=>.many t n λk=>frz (f k)
 |.mp _ l=>.mp false l
 |v=>v
theorem Rel.frz':∀(v:V) (R:V->Value->Prop) (cv:Value) (fp:Nat->Prop),Rel D w R v cv fp->Rel (λb=>D b\/fp b) w R (frz v) cv noF:=by
 intro v
 induction v with
 |c v=>intro R cv fp h;exact⟨h.1,h.2.1,λ_ h=>h⟩
 |dead=>intro R cv fp h;exact λ_ h=>h
 |many t n f U=>
  intro R cv fp h;obtain⟨cs,F,A,hn,Y,hd,hf⟩:=h;exact⟨cs,λ_=>noF,A.mono (λb O=>.inl O) (λ_ _=>rfl),hn,λk E=>Rel.mono (λb O=>O.imp id λh=>(hf b).2 ⟨k,E,h⟩) (λ_ _ h=>h) _ _ _ (λ_ _=>rfl) (U k _ _ _ (Y k E)),λ_ _ _ _ _ _ h=>h.elim,λb=>⟨λh=>h.elim,fun⟨_,_,h⟩=>h⟩⟩
 |nd s own sz n f U=>
  intro R cv fp h;rcases h with h|⟨b,o,cap,F,A,J,H,hs,Y,hi,ho⟩
  .exact .inl ⟨h.1,h.2.1,UH h.2.2.1,λ_ h=>h⟩
  have Z:∀i k,i<n->k<sz->∀c,F i k c->fp c:=by
   intro i k u E c hc;cases own with
   |false=>exact absurd hc ((hi rfl).2.1 i k c u E)
   |true=>exact((ho rfl).2.2.2 c).2 (.inr ⟨i,k,u,E,hc⟩)
  have hDb:0<n*sz->D b\/fp b:=by
   intro h;cases own with
   |false=>exact .inl ((hi rfl).1 h)
   |true=>exact .inr (((ho rfl).2.2.2 b).2 (.inl rfl))
  refine .inr ⟨b,o,cap,λ_ _=>noF,A,J,H,hs,?_,λ_=>⟨hDb,λ_ _ _ _ _ h=>h,λ_ h=>h⟩,λh=>by cases h⟩
  intro i k u E;obtain⟨x,hx,W⟩:=Y i k u E;exact⟨x,hx,Rel.mono (λb O=>O.imp id (Z i k u E b)) (λ_ _ h=>h) _ _ _ (λ_ _=>rfl) (U i k _ _ _ W)⟩
 |rs id p off len=>intro R cv fp h;exact⟨h.1,λ_ h=>h⟩
 |rp id p i k=>intro R cv fp h;exact⟨h.1,λ_ h=>h⟩
 |rm id p=>intro R cv fp h;exact⟨h.1,λ_ h=>h⟩
 |mp own l=>
  intro R cv fp h;obtain⟨b,A,hm,h0,h1⟩:=h;refine⟨b,A,hm,λ_=>⟨?_,λ_ h=>h⟩,λe=>by cases e⟩
  cases own with
  |false=>exact .inl (h0 rfl).1
  |true=>exact .inr ((h1 rfl b).2 rfl)
def Rel.frz{D:Nat->Prop}{w:World}{R:V->Value->Prop}(v:V)(cv:Value)(fp:Nat->Prop)(h:Rel D w R v cv fp):Rel (λb=>D b\/fp b) w R (Go.Ve.frz v) cv noF:=Rel.frz' v R cv fp h
def Eqv:V->V->Prop
 |.c v,v'=>v'=.c v
 |.dead,v'=>v'=.dead
 |.many t n f,v'=>∃g,v'=.many t n g/\∀k,k<n->Eqv (f k) (g k)
 |.nd s own sz n f,v'=>∃g,v'=.nd s own sz n g/\∀i k,i<n->k<sz->Eqv (f i k) (g i k)
 |.rs id p off len,v'=>v'=.rs id p off len
 |.rp id p i k,v'=>v'=.rp id p i k
 |.rm id p,v'=>v'=.rm id p
 |.mp own l,v'=>v'=.mp own l
theorem Rel.eqv':∀(v v':V) (R:V->Value->Prop) (cv:Value) (fp:Nat->Prop),Eqv v v'->Rel D w R v cv fp->Rel D w R v' cv fp:=by
 intro v
 induction v with
 |c v=>intro v' R cv fp e h;cases e;exact h
 |dead=>intro v' R cv fp e h;cases e;exact h
 |many t n f O=>
  intro v' R cv fp e h;obtain⟨g,rfl,e⟩:=e;obtain⟨cs,F,u,hn,W,hd,hf⟩:=h;exact⟨cs,F,u,hn,λk E=>O k _ _ _ _ (e k E) (W k E),hd,hf⟩
 |nd s own sz n f O=>
  intro v' R cv fp e h;obtain⟨g,rfl,e⟩:=e;rcases h with h|⟨b,o,cap,F,u,J,A,Z,W,hi,ho⟩
  .exact .inl h
  refine .inr ⟨b,o,cap,F,u,J,A,Z,?_,hi,ho⟩;intro i k H E;obtain⟨x,Y,U⟩:=W i k H E;exact⟨x,Y,O i k _ _ _ _ (e i k H E) U⟩
 |rs id p off len=>intro v' R cv fp e h;cases e;exact h
 |rp id p i k=>intro v' R cv fp e h;cases e;exact h
 |rm id p=>intro v' R cv fp e h;cases e;exact h
 |mp own l=>intro v' R cv fp e h;cases e;exact h
def Rel.eqv(v v':V)(cv:Value)(fp:Nat->Prop)(e:Eqv v v')(h:Rel D w R v cv fp):Rel D w R v' cv fp:=Rel.eqv' v v' R cv fp e h
theorem Eqv.refl:∀v,Eqv v v:=by
 intro v
 induction v with
 |c v=>rfl
 |dead=>rfl
 |many t n f e=>exact⟨f,rfl,λk _=>e k⟩
 |nd s own sz n f e=>exact⟨f,rfl,λi k _ _=>e i k⟩
 |rs id p off len=>rfl
 |rp id p i k=>rfl
 |rm id p=>rfl
 |mp own l=>rfl
def Sub:V->V->Prop
 |.c v,v'=>v'=.c v\/(v=.slice none 0 0/\∃own sz f,v'=.nd true own sz 0 f)
 |.dead,v'=>v'=.dead
 |.many t n f,v'=>∃g,v'=.many t n g/\∀k,k<n->Sub (f k) (g k)
 |.nd s own sz n f,v'=>∃g,v'=.nd s own sz n g/\∀i k,i<n->k<sz->Sub (f i k) (g i k)
 |.rs id p off len,v'=>v'=.rs id p off len
 |.rp id p i k,v'=>v'=.rp id p i k
 |.rm id p,v'=>v'=.rm id p
 |.mp own l,v'=>v'=.mp own l
theorem Rel.sub':∀(v v':V) (R:V->Value->Prop) (cv:Value) (fp:Nat->Prop),Sub v v'->Rel D w R v cv fp->Rel D w R v' cv fp:=by
 intro v
 induction v with
 |c v=>
  intro v' R cv fp e h;rcases e with rfl|⟨rfl,own,sz,f,rfl⟩
  .exact h
  .exact .inl ⟨rfl,rfl,.inl h.1,h.2.2⟩
 |dead=>intro v' R cv fp e h;cases e;exact h
 |many t n f O=>
  intro v' R cv fp e h;obtain⟨g,rfl,e⟩:=e;obtain⟨cs,F,u,hn,W,hd,hf⟩:=h;exact⟨cs,F,u,hn,λk E=>O k _ _ _ _ (e k E) (W k E),hd,hf⟩
 |nd s own sz n f O=>
  intro v' R cv fp e h;obtain⟨g,rfl,e⟩:=e;rcases h with h|⟨b,o,cap,F,u,J,A,Z,W,hi,ho⟩
  .exact .inl h
  refine .inr ⟨b,o,cap,F,u,J,A,Z,?_,hi,ho⟩;intro i k H E;obtain⟨x,Y,U⟩:=W i k H E;exact⟨x,Y,O i k _ _ _ _ (e i k H E) U⟩
 |rs id p off len=>intro v' R cv fp e h;cases e;exact h
 |rp id p i k=>intro v' R cv fp e h;cases e;exact h
 |rm id p=>intro v' R cv fp e h;cases e;exact h
 |mp own l=>intro v' R cv fp e h;cases e;exact h
def Rel.sub(e:Sub v v')(h:Rel D w R v cv fp):Rel D w R v' cv fp:=Rel.sub' v v' R cv fp e h
theorem Eqv.sub:∀{v v':V},Eqv v v'->Sub v v':=by
 intro v
 induction v with
 |c v=>intro v' h;exact .inl h
 |dead=>intro v' h;exact h
 |many t n f e=>intro v' h;obtain⟨g,rfl,h⟩:=h;exact⟨g,rfl,λk u=>e k (h k u)⟩
 |nd s own sz n f e=>intro v' h;obtain⟨g,rfl,h⟩:=h;exact⟨g,rfl,λi k hi u=>e i k (h i k hi u)⟩
 |rs id p off len=>intro v' h;exact h
 |rp id p i k=>intro v' h;exact h
 |rm id p=>intro v' h;exact h
 |mp own l=>intro v' h;exact h
def Sub.refl(v:V):Sub v v:=Eqv.sub (Eqv.refl v)
def Sub.of_eq(h:v=v'):Sub v v':=h▸Sub.refl v
theorem Sub.trans:∀{v v' e:V},Sub v v'->Sub v' e->Sub v e:=by
 intro v
 induction v with
 |c v=>
  intro v' e h u;rcases h with rfl|⟨rfl,own,sz,f,rfl⟩
  .exact u
  .obtain⟨g,rfl,_⟩:=u;exact .inr ⟨rfl,_,_,_,rfl⟩
 |dead=>intro v' e h u;cases h;exact u
 |many t n f E=>intro v' e h u;obtain⟨g,rfl,h⟩:=h;obtain⟨F,rfl,u⟩:=u;exact⟨F,rfl,λk A=>E k (h k A) (u k A)⟩
 |nd s own sz n f E=>intro v' e h u;obtain⟨g,rfl,h⟩:=h;obtain⟨F,rfl,u⟩:=u;exact⟨F,rfl,λi k hi A=>E i k (h i k hi A) (u i k hi A)⟩
 |rs id p off len=>intro v' e h u;cases h;exact u
 |rp id p i k=>intro v' e h u;cases h;exact u
 |rm id p=>intro v' e h u;cases h;exact u
 |mp own l=>intro v' e h u;cases h;exact u
def Ag(l:List V):V:=.many .ag l.length λk=>l.getD k .dead
def tab:Nat->(Nat->V)->List V
 |0,_=>[]
 |n+1,g=>g 0::tab n λk=>g (k+1)
def Hh:∀(n:Nat) (g:Nat->V),(tab n g).length=n
 |0,_=>rfl
 |n+1,g=>by unfold tab;simp[Hh n]
def Mx:∀(n:Nat) (g:Nat->V) (k:Nat),k<n->(tab n g).getD k .dead=g k
 |0,_,_,h=>by omega
 |n+1,g,0,_=>rfl
 |n+1,g,k+1,h=>Mx n (λk=>g (k+1)) k (by omega)
def PO(n:Nat)(g:Nat->V):Eqv (.many .ag n g) (Ag (tab n g)):=by
 refine⟨λk=>(tab n g).getD k .dead,by unfold Ag;rw[Hh],λk e=>?_⟩
 show Eqv (g k) ((tab n g).getD k .dead);rw[Mx n g k e];exact Eqv.refl _
def A8(own:Bool)(l:List V):V:=.nd false own l.length 1 λi k=>([l].getD i []).getD k .dead
def arr{α:Type}(own:Bool)(sz:Nat)(g:α->List V)(d:α)(l:List α):V:=.nd true own sz l.length λi k=>(g (l.getD i d)).getD k .dead
def ints(own:Bool)(xs:List Int):V:=arr own 1 (λn=>[.c (.int .i64 n)]) 0 xs
def rows(own:Bool)(e:List (List Int)):V:=arr own 1 (λxs=>[ints own xs]) [] e
end Go.Ve

