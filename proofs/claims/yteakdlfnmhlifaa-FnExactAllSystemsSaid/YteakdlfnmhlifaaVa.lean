/- The abstract values of a small machine over trees. -/
import Derived.WalkKit
import Derived.Below
import Derived.Lib.LaidTab
import Derived.Lib.ItoaNum
open Nat(le_refl blt)
set_option linter.all false
namespace Go.Ve
variable{cs:Array Value}{own s:Bool}{B b cap g i m n o:Nat}{D D' fp:Nat->Prop}{p:Prop}{α:Type _}{T:TypeId}{cv:Value}{w w':World}
def dT[inst:Decidable p](h:p):decide p=true:=decide_eq_true h
def dF[inst:Decidable p](h:¬p):decide p=false:=decide_eq_false h
def bqE(h:n.beq m=true):n=m:=Nat.eq_of_beq_eq_true h
def blE(h:n.ble m=true):n<=m:=Nat.le_of_ble_eq_true h
def gAR{A F:List α}(h:A.length<=i):(A++F)[i]? =F[i-A.length]?:=List.getElem?_append_right h
def gAL{A F:List α}(h:i<A.length):(A++F)[i]? =A[i]?:=List.getElem?_append_left h
def tNC(n:Nat):(n:Int).toNat=n:=Int.toNat_natCast n
def mCM{a:α}{l:List α}(y:α)(h:a∈l):a∈y::l:=List.mem_cons_of_mem y h
def gDE{l:List α}{a:α}:l.getD i a=l[i]?.getD a:=List.getD_eq_getElem?_getD
def bAE(a b:Bool):((a&&b)=true)=(a=true/\b=true):=Bool.and_eq_true a b
def aET{p:α->Bool}{l:List α}:l.all p=true<->∀x,x∈l->p x=true:=List.all_eq_true
def gEE{l:List α}(h:i<l.length):l[i]? =some l[i]:=List.getElem?_eq_getElem h
structure Below(B:Nat)(w w':World):Prop where
 os:w'.os=w.os
 tape:w'.tape=w.tape
 output:w'.output=w.output
 size:w.heap.size<=w'.heap.size
 block:∀k,k<B->w'.heap[k]? =w.heap[k]?
 drawn:w.drawn<=w'.drawn
def Below.refl(B:Nat)(w:World):Below B w w:=⟨rfl,rfl,rfl,le_refl _,λ_ _=>rfl,le_refl _⟩
theorem Below.trans{B:Nat}{a b c:World}(h:Below B a b)(k:Below B b c):Below B a c:=
 ⟨k.os.trans h.os,k.tape.trans h.tape,k.output.trans h.output,Nat.le_trans h.size k.size,λi hi=>(k.block i hi).trans (h.block i hi),Nat.le_trans h.drawn k.drawn⟩
def Below.mono{B':Nat}(h:Below B w w')(F:B'<=B):Below B' w w':=⟨h.os,h.tape,h.output,h.size,λk A=>h.block k (Nat.lt_of_lt_of_le A F),h.drawn⟩
def Below.heap_alloc(w:World)(o:Obj)(k:Nat)(h:k<w.heap.size):(w.alloc o).heap[k]? =w.heap[k]?:=RowKit.Below.heap_alloc w o k h
def Below.heap_setCell(w:World)(a:Addr)(u:Value)(k:Nat)(h:k≠a.block):(w.setCell a u).heap[k]? =w.heap[k]?:=RowKit.Below.heap_setCell w a u k h
def Below.alloc{B:Nat}{a w:World}(h:Below B a w)(F:B<=w.heap.size)(o:Obj):Below B a (w.alloc o):=
 h.trans ⟨rfl,rfl,rfl,by simp,λk A=>Below.heap_alloc _ _ _ (by omega),le_refl _⟩
def Below.setCell{B:Nat}{a w:World}(h:Below B a w){p:Addr}(A:B<=p.block)(u:Value):Below B a (w.setCell p u):=
 h.trans ⟨rfl,rfl,rfl,by simp[World.setCell],λk F=>Below.heap_setCell _ _ _ _ (by omega),le_refl _⟩
def Below.row(h:Below B w w'):RowKit.Below B w w':=⟨h.os,h.tape,h.output,h.size,h.block⟩
inductive Tg where
 |ag|tu|bx|cl (g:Nat)
deriving DecidableEq
inductive V where
 |c (v:Value)
 |dead
 |many (t:Tg) (n:Nat) (f:Nat->V)
 |nd (s own:Bool) (sz n:Nat) (f:Nat->Nat->V)
 |rs (id:Nat) (p:List (Nat×Nat)) (off len:Nat)
 |rp (id:Nat) (p:List (Nat×Nat)) (i k:Nat)
 |rm (id:Nat) (p:List (Nat×Nat))
 |mp (own:Bool) (l:List (Value×Value))
variable{v v':V}{R:V->Value->Prop}
instance:Inhabited V:=⟨.dead⟩
def Av(s:Bool)(b o n cap:Nat):Value:=if s then .slice (some ⟨b,o,none⟩) n cap else .pointer (some ⟨b,o,none⟩)
def nilS(cv:Value):Prop:=∃a:Option Addr,cv=.slice a 0 0/\∀x,a=some x->x.spot≠none
def XH:nilS (.slice none 0 0):=⟨none,rfl,λ_ e=>by cases e⟩
def P1:¬nilS (Av s b o n cap):=by
 rintro ⟨a,e,h⟩
 cases s with
 |false=>cases e
 |true=>
  cases e;exact h _ rfl rfl
def Adm(own:Bool)(cv:Value):Prop:=cv=.slice none 0 0\/(own=false/\nilS cv)
def DQ(h:Adm true cv):cv=.slice none 0 0:=h.resolve_right λe=>by cases e.1
def BF:¬Adm own (Av s b o n cap):=by
 rintro (h|⟨_,h⟩)
 .cases s<;>cases h
 .exact P1 h
def Ug(h:Adm own cv):Adm false cv:=h.elim .inl λh=>.inr ⟨rfl,h.2⟩
def B5(h:Adm own cv):∃a,cv=.slice a 0 0:=h.elim (λh=>⟨none,h⟩) fun⟨_,a,h,_⟩=>⟨a,h⟩
def noR:V->Value->Prop:=λ_ _=>False
def noF:Nat->Prop:=λ_=>False
def Abi(g:Nat)(cs:Array Value):Value:=bif blt g 1000000 then .func (.func g) #[] cs else .iface (g-1000000) (cs.getD 0 undef)
def Pb(h:blt g 1000000=true):Abi g cs=.func (.func g) #[] cs:=by unfold Abi;rw[h];rfl
def Aap:(Abi g cs).oneCell'=true:=by
 unfold Abi;cases blt g 1000000<;>rfl
def Ly(D:Nat->Prop)(w:World):Tg->Array Value->Value->Prop
 |.ag,cs,cv=>cv=.agg cs
 |.tu,cs,cv=>cv=.tuple cs
 |.cl g,cs,cv=>cv=Abi g cs
 |.bx,cs,cv=>∃b o,cv=.pointer (some ⟨b,o,none⟩)/\(0<cs.size->D b)/\∀k,k<cs.size->w.cell? ⟨b,o+k,none⟩=some (cs.getD k undef)
def KD{a:Addr}(h:w'.heap[a.block]? =w.heap[a.block]?):w'.cell? a=w.cell? a:=by
 unfold World.cell?;rw[h]
theorem Ly.mono{t:Tg}(h:Ly D w t cs cv)(hD:∀b,D b->D' b)(F:∀b,D b->w'.heap[b]? =w.heap[b]?):Ly D' w' t cs cv:=by
 cases t with
 |ag=>exact h
 |tu=>exact h
 |cl g=>exact h
 |bx=>
  obtain⟨b,o,W,A,h3⟩:=h;exact⟨b,o,W,λH=>hD b (A H),λk U=>(KD (w:=w) (F b (A (by omega)))).trans (h3 k U)⟩
def BP(w:World)(b:Nat)(cs:Array Value)(T:TypeId):Prop:=∃fz:Nat×Nat,w.heap[b]? =some (.cells cs T fz)/\(fz=(0,0)\/cs.size<=fz.1)
def BP.same(h:BP w b cs T)(A:w'.heap[b]? =w.heap[b]?):BP w' b cs T:=by
 obtain⟨fz,H,F⟩:=h;exact⟨fz,A.trans H,F⟩
def BP.plain(h:w.heap[b]? =some (.cells cs T (0,0))):BP w b cs T:=⟨_,h,.inl rfl⟩
def BP.frozen{w:World}{b off:Nat}{cs:Array Value}{T:TypeId}{y:Value}(h:BP w b cs T)(A:w.cell? ⟨b,off,none⟩=some y):w.frozen? ⟨b,off,none⟩=false:=by
 obtain⟨⟨F,hi⟩,h1,h2⟩:=h;unfold World.cell? at A;simp only[h1,Option.isSome_none,Bool.false_eq_true,if_false]at A;have H:off<cs.size:=(Array.getElem?_eq_some_iff.1 A).1;unfold World.frozen?;rcases h2 with h2|h2
 .cases h2;simp[h1]
 .have h3:cs.size<=F:=h2
  simp[h1];omega
def BP.lt(h:BP w b cs T):b<w.heap.size:=by
 obtain⟨_,h,_⟩:=h;exact(Array.getElem?_eq_some_iff.1 h).1
def WD:Option (Nat×Array Value):=none
def Wok(w:World):Prop:=∀p,WD=some p->∃T fz,w.heap[p.1]? =some (.cells p.2 T fz)
theorem wok0(h:WD=none)(w:World):Wok w:=λp A=>by rw[h]at A;cases A
def Wok.lt(h:Wok w){p:Nat×Array Value}(A:WD=some p):p.1<w.heap.size:=by
 obtain⟨_,_,h⟩:=h p A;exact(Array.getElem?_eq_some_iff.1 h).1
def Wok.same(h:Wok w)(F:∀p,WD=some p->w'.heap[p.1]? =w.heap[p.1]?):Wok w':=λp A=>by
 rw[F p A];exact h p A
def VI(w:World)(b:Nat)(l:List (Value×Value)):Prop:=∃F A,w.heap[b]? =some (.map F A)/\F.toList.map (λe=>(e.key,e.val))=l
def VI.same{l:List (Value×Value)}(h:VI w b l)(e:w'.heap[b]? =w.heap[b]?):VI w' b l:=by
 obtain⟨H,c,F,A⟩:=h;exact⟨H,c,e.trans F,A⟩
def VI.lt{l:List (Value×Value)}(h:VI w b l):b<w.heap.size:=by
 obtain⟨H,c,A,F⟩:=h;exact(Array.getElem?_eq_some_iff.1 A).1
def Rel(D:Nat->Prop)(w:World):(V->Value->Prop)->V->Value->(Nat->Prop)->Prop
 |_,.c v,cv,fp=>cv=v/\v.oneCell'=true/\∀b,¬fp b
 |_,.dead,_,fp=>∀b,¬fp b
 |R,.many t n f,cv,fp=>∃(cs:Array Value) (F:Nat->Nat->Prop),Ly D w t cs cv/\cs.size=n/\
   (∀k,k<n->Rel D w R (f k) (cs.getD k undef) (F k))/\(∀k k' b,k<n->k'<n->k≠k'->F k b->¬F k' b)/\∀b,fp b↔ ∃k,k<n/\F k b
 |_,.nd s own sz n f,cv,fp=>(n=0/\s=true/\Adm own cv/\∀b,¬fp b)\/
   ∃(b o cap:Nat) (F:Nat->Nat->Nat->Prop),cv=Av s b o n cap/\n<=cap/\n<=maxLen/\(s=false->n=1)/\
    (∀i k,i<n->k<sz->∃x,w.cell? ⟨b,o+i*sz+k,none⟩=some x/\Rel D w noR (f i k) x (F i k))/\
    (own=false->(0<n*sz->D b)/\(∀i k x,i<n->k<sz->¬F i k x)/\∀x,¬fp x)/\
    (own=true->(∃cs T,BP w b cs T/\o+cap*sz<=cs.size)/\
     (∀i k,i<n->k<sz->¬F i k b)/\
     (∀i k i' k' x,i<n->k<sz->i'<n->k'<sz->(i≠i'\/k≠k')->F i k x->¬F i' k' x)/\
     ∀x,fp x↔x=b\/∃i k,i<n/\k<sz/\F i k x)
 |R,.rs id p off len,cv,fp=>R (.rs id p off len) cv/\∀b,¬fp b
 |R,.rp id p i k,cv,fp=>R (.rp id p i k) cv/\∀b,¬fp b
 |R,.rm id p,cv,fp=>R (.rm id p) cv/\∀b,¬fp b
 |_,.mp own l,cv,fp=>∃b,cv=.map (some b)/\VI w b l/\(own=false->D b/\∀x,¬fp x)/\(own=true->∀x,fp x↔x=b)
def Dg{a:Addr}(h:w'.heap[a.block]? =w.heap[a.block]?):w'.cell? a=w.cell? a:=by
 unfold World.cell?;rw[h]
theorem Rel.mono'{w w':World}(hD:∀b,D b->D' b):
  ∀(v:V) (R R':V->Value->Prop) (A:∀v cv,R v cv->R' v cv) (cv:Value) (fp:Nat->Prop),(∀b,D b\/fp b->w'.heap[b]? =w.heap[b]?)->Rel D w R v cv fp->Rel D' w' R' v cv fp:=by
 intro v
 induction v with
 |c v=>intro R R' A cv fp _ h;exact h
 |dead=>intro R R' A cv fp _ h;exact h
 |many t n f ih=>
  intro R R' A cv fp W h;obtain⟨cs,F,U,hn,hr,hd,hf⟩:=h;exact⟨cs,F,U.mono hD (λb hb=>W b (.inl hb)),hn,λk hk=>ih k R R' A _ _ (λb hb=>W b (hb.imp id λh=>(hf b).2 ⟨k,hk,h⟩)) (hr k hk),hd,hf⟩
 |nd s own sz n f ih=>
  intro R R' A cv fp W h;rcases h with h|⟨b,o,cap,F,U,hcap,hmax,hs,hr,hi,ho⟩
  .exact .inl h
  refine .inr ⟨b,o,cap,F,U,hcap,hmax,hs,?_,?_,?_⟩
  .intro i k Z hk
   obtain⟨x,hx,hrx⟩:=hr i k Z hk;cases own with
   |false=>
    obtain⟨Y,h2,h3⟩:=hi rfl;have hb:D b:=Y (Nat.mul_pos (by omega) (by omega))
    refine⟨x,by rw[Dg (w:=w) (W b (.inl hb))];exact hx,ih i k noR noR (λ_ _ h=>h) _ _ (λc hc=>W c (hc.imp id λh=>absurd h (h2 i k c Z hk))) hrx⟩
   |true=>
    obtain⟨Y,h2,h3,h4⟩:=ho rfl;refine⟨x,by rw[Dg (w:=w) (W b (.inr ((h4 b).2 (.inl rfl))))];exact hx,ih i k noR noR (λ_ _ h=>h) _ _ (λc hc=>W c (hc.imp id λh=>(h4 c).2 (.inr ⟨i,k,Z,hk,h⟩))) hrx⟩
  .intro H
   obtain⟨Y,h2,h3⟩:=hi H;exact⟨λh=>hD _ (Y h),h2,h3⟩
  .intro H
   obtain⟨⟨cs,T,Y,h1'⟩,h2,h3,h4⟩:=ho H;exact⟨⟨cs,T,Y.same (W b (.inr ((h4 b).2 (.inl rfl)))),h1'⟩,h2,h3,h4⟩
 |rs id p off len=>intro R R' A cv fp _ h;exact⟨A _ _ h.1,h.2⟩
 |rp id p i k=>intro R R' A cv fp _ h;exact⟨A _ _ h.1,h.2⟩
 |rm id p=>intro R R' A cv fp _ h;exact⟨A _ _ h.1,h.2⟩
 |mp own l=>
  intro R R' A cv fp W h;obtain⟨b,U,hm,h0,Y⟩:=h;refine⟨b,U,hm.same (W b ?_),λe=>⟨hD _ (h0 e).1,(h0 e).2⟩,Y⟩
  cases own with
  |false=>exact .inl (h0 rfl).1
  |true=>exact .inr ((Y rfl b).2 rfl)
def Rel.mono{w w':World}{R':V->Value->Prop}(hD:∀b,D b->D' b)(F:∀v cv,R v cv->R' v cv)
  (v:V) (cv:Value) (fp:Nat->Prop) (h:∀b,D b\/fp b->w'.heap[b]? =w.heap[b]?) (A:Rel D w R v cv fp):Rel D' w' R' v cv fp:=Rel.mono' hD v R R' F cv fp h A
theorem Rel.lt':∀(v:V) (R:V->Value->Prop) (cv:Value) (fp:Nat->Prop),Rel D w R v cv fp->∀b,fp b->b<w.heap.size:=by
 intro v
 induction v with
 |c v=>intro R cv fp h b A;exact absurd A (h.2.2 b)
 |dead=>intro R cv fp h b A;exact absurd A (h b)
 |many t n f U=>
  intro R cv fp h b A;obtain⟨cs,F,H,hn,Y,hd,hf⟩:=h;obtain⟨k,Z,A⟩:=(hf b).1 A;exact U k _ _ _ (Y k Z) b A
 |nd s own sz n f U=>
  intro R cv fp h b A;rcases h with h|⟨b',o,cap,F,H,hcap,hmax,hs,Y,hi,ho⟩
  .exact absurd A (h.2.2.2 b)
  cases own with
  |false=>exact absurd A ((hi rfl).2.2 b)
  |true=>
   obtain⟨⟨cs,T,h1,h1'⟩,h2,h3,h4⟩:=ho rfl;rcases(h4 b).1 A with rfl|⟨i,k,hin,Z,hF⟩
   .exact h1.lt
   .obtain⟨x,hx,W⟩:=Y i k hin Z
    exact U i k _ _ _ W b hF
 |rs id p off len=>intro R cv fp h b A;exact absurd A (h.2 b)
 |rp id p i k=>intro R cv fp h b A;exact absurd A (h.2 b)
 |rm id p=>intro R cv fp h b A;exact absurd A (h.2 b)
 |mp own l=>
  intro R cv fp h b A;obtain⟨b',H,hm,h0,h1⟩:=h;cases own with
  |false=>exact absurd A ((h0 rfl).2 b)
  |true=>rw[(h1 rfl b).1 A];exact hm.lt
def Rel.lt(v:V)(cv:Value)(fp:Nat->Prop)(h:Rel D w R v cv fp):∀b,fp b->b<w.heap.size:=Rel.lt' v R cv fp h
def Rel.fp_congr{A:Nat->Prop}(h:∀b,fp b↔A b)(F:Rel D w R v cv fp):Rel D w R v cv A:=by
 have:fp=A:=funext λb=>propext (h b)
 rw[<-this];exact F
def frz:V->V
 |.nd s _ sz n f=>.nd s false sz n λi k=>frz (f i k)
 |.many t n f=>.many t n λk=>frz (f k)
 |.mp _ l=>.mp false l
 |v=>v
theorem Rel.frz':∀(v:V) (R:V->Value->Prop) (cv:Value) (fp:Nat->Prop),Rel D w R v cv fp->Rel (λb=>D b\/fp b) w R (frz v) cv noF:=by
 intro v
 induction v with
 |c v=>intro R cv fp h;exact⟨h.1,h.2.1,λ_ h=>h⟩
 |dead=>intro R cv fp h;exact λ_ h=>h
 |many t n f ih=>
  intro R cv fp h;obtain⟨cs,F,H,hn,hr,hd,hf⟩:=h;exact⟨cs,λ_=>noF,H.mono (λb Z=>.inl Z) (λ_ _=>rfl),hn,λk U=>Rel.mono (λb Z=>Z.imp id λh=>(hf b).2 ⟨k,U,h⟩) (λ_ _ h=>h) _ _ _ (λ_ _=>rfl) (ih k _ _ _ (hr k U)),λ_ _ _ _ _ _ h=>h.elim,λb=>⟨λh=>h.elim,fun⟨_,_,h⟩=>h⟩⟩
 |nd s own sz n f ih=>
  intro R cv fp h;rcases h with h|⟨b,o,cap,F,H,Y,W,hs,hr,hi,ho⟩
  .exact .inl ⟨h.1,h.2.1,Ug h.2.2.1,λ_ h=>h⟩
  have hFf:∀i k,i<n->k<sz->∀c,F i k c->fp c:=by
   intro i k A U c hc;cases own with
   |false=>exact absurd hc ((hi rfl).2.1 i k c A U)
   |true=>exact((ho rfl).2.2.2 c).2 (.inr ⟨i,k,A,U,hc⟩)
  have hDb:0<n*sz->D b\/fp b:=by
   intro h;cases own with
   |false=>exact .inl ((hi rfl).1 h)
   |true=>exact .inr (((ho rfl).2.2.2 b).2 (.inl rfl))
  refine .inr ⟨b,o,cap,λ_ _=>noF,H,Y,W,hs,?_,λ_=>⟨hDb,λ_ _ _ _ _ h=>h,λ_ h=>h⟩,λh=>by cases h⟩
  intro i k A U;obtain⟨x,hx,hrx⟩:=hr i k A U;exact⟨x,hx,Rel.mono (λb Z=>Z.imp id (hFf i k A U b)) (λ_ _ h=>h) _ _ _ (λ_ _=>rfl) (ih i k _ _ _ hrx)⟩
 |rs id p off len=>intro R cv fp h;exact⟨h.1,λ_ h=>h⟩
 |rp id p i k=>intro R cv fp h;exact⟨h.1,λ_ h=>h⟩
 |rm id p=>intro R cv fp h;exact⟨h.1,λ_ h=>h⟩
 |mp own l=>
  intro R cv fp h;obtain⟨b,H,hm,h0,h1⟩:=h;refine⟨b,H,hm,λ_=>⟨?_,λ_ h=>h⟩,λe=>by cases e⟩
  cases own with
  |false=>exact .inl (h0 rfl).1
  |true=>exact .inr ((h1 rfl b).2 rfl)
def Rel.frz{D:Nat->Prop}{w:World}{R:V->Value->Prop}(v:V)(cv:Value)(fp:Nat->Prop)(h:Rel D w R v cv fp):Rel (λb=>D b\/fp b) w R (Go.Ve.frz v) cv noF:=Rel.frz' v R cv fp h
def Eqv:V->V->Prop
 |.c v,v'=>v'=.c v
 |.dead,v'=>v'=.dead
 |.many t n f,v'=>∃g,v'=.many t n g/\∀k,k<n->Eqv (f k) (g k)
 |.nd s own sz n f,v'=>∃g,v'=.nd s own sz n g/\∀i k,i<n->k<sz->Eqv (f i k) (g i k)
 |.rs id p off len,v'=>v'=.rs id p off len
 |.rp id p i k,v'=>v'=.rp id p i k
 |.rm id p,v'=>v'=.rm id p
 |.mp own l,v'=>v'=.mp own l
theorem Rel.eqv':∀(v v':V) (R:V->Value->Prop) (cv:Value) (fp:Nat->Prop),Eqv v v'->Rel D w R v cv fp->Rel D w R v' cv fp:=by
 intro v
 induction v with
 |c v=>intro v' R cv fp A h;cases A;exact h
 |dead=>intro v' R cv fp A h;cases A;exact h
 |many t n f ih=>
  intro v' R cv fp A h;obtain⟨g,rfl,A⟩:=A;obtain⟨cs,F,H,hn,hr,hd,hf⟩:=h;exact⟨cs,F,H,hn,λk W=>ih k _ _ _ _ (A k W) (hr k W),hd,hf⟩
 |nd s own sz n f ih=>
  intro v' R cv fp A h;obtain⟨g,rfl,A⟩:=A;rcases h with h|⟨b,o,cap,F,H,Z,U,hs,hr,hi,ho⟩
  .exact .inl h
  refine .inr ⟨b,o,cap,F,H,Z,U,hs,?_,hi,ho⟩;intro i k Y W;obtain⟨x,hx,hrx⟩:=hr i k Y W;exact⟨x,hx,ih i k _ _ _ _ (A i k Y W) hrx⟩
 |rs id p off len=>intro v' R cv fp A h;cases A;exact h
 |rp id p i k=>intro v' R cv fp A h;cases A;exact h
 |rm id p=>intro v' R cv fp A h;cases A;exact h
 |mp own l=>intro v' R cv fp A h;cases A;exact h
def Rel.eqv(v v':V)(cv:Value)(fp:Nat->Prop)(A:Eqv v v')(h:Rel D w R v cv fp):Rel D w R v' cv fp:=Rel.eqv' v v' R cv fp A h
theorem Eqv.refl:∀v,Eqv v v:=by
 intro v
 induction v with
 |c v=>rfl
 |dead=>rfl
 |many t n f A=>exact⟨f,rfl,λk _=>A k⟩
 |nd s own sz n f A=>exact⟨f,rfl,λi k _ _=>A i k⟩
 |rs id p off len=>rfl
 |rp id p i k=>rfl
 |rm id p=>rfl
 |mp own l=>rfl
def Sub:V->V->Prop
 |.c v,v'=>v'=.c v\/(v=.slice none 0 0/\∃own sz f,v'=.nd true own sz 0 f)
 |.dead,v'=>v'=.dead
 |.many t n f,v'=>∃g,v'=.many t n g/\∀k,k<n->Sub (f k) (g k)
 |.nd s own sz n f,v'=>∃g,v'=.nd s own sz n g/\∀i k,i<n->k<sz->Sub (f i k) (g i k)
 |.rs id p off len,v'=>v'=.rs id p off len
 |.rp id p i k,v'=>v'=.rp id p i k
 |.rm id p,v'=>v'=.rm id p
 |.mp own l,v'=>v'=.mp own l
theorem Rel.sub':∀(v v':V) (R:V->Value->Prop) (cv:Value) (fp:Nat->Prop),Sub v v'->Rel D w R v cv fp->Rel D w R v' cv fp:=by
 intro v
 induction v with
 |c v=>
  intro v' R cv fp A h;rcases A with rfl|⟨rfl,own,sz,f,rfl⟩
  .exact h
  .exact .inl ⟨rfl,rfl,.inl h.1,h.2.2⟩
 |dead=>intro v' R cv fp A h;cases A;exact h
 |many t n f ih=>
  intro v' R cv fp A h;obtain⟨g,rfl,A⟩:=A;obtain⟨cs,F,H,hn,hr,hd,hf⟩:=h;exact⟨cs,F,H,hn,λk W=>ih k _ _ _ _ (A k W) (hr k W),hd,hf⟩
 |nd s own sz n f ih=>
  intro v' R cv fp A h;obtain⟨g,rfl,A⟩:=A;rcases h with h|⟨b,o,cap,F,H,Z,U,hs,hr,hi,ho⟩
  .exact .inl h
  refine .inr ⟨b,o,cap,F,H,Z,U,hs,?_,hi,ho⟩;intro i k Y W;obtain⟨x,hx,hrx⟩:=hr i k Y W;exact⟨x,hx,ih i k _ _ _ _ (A i k Y W) hrx⟩
 |rs id p off len=>intro v' R cv fp A h;cases A;exact h
 |rp id p i k=>intro v' R cv fp A h;cases A;exact h
 |rm id p=>intro v' R cv fp A h;cases A;exact h
 |mp own l=>intro v' R cv fp A h;cases A;exact h
def Rel.sub(A:Sub v v')(h:Rel D w R v cv fp):Rel D w R v' cv fp:=Rel.sub' v v' R cv fp A h
theorem Eqv.sub:∀{v v':V},Eqv v v'->Sub v v':=by
 intro v
 induction v with
 |c v=>intro v' h;exact .inl h
 |dead=>intro v' h;exact h
 |many t n f A=>intro v' h;obtain⟨g,rfl,h⟩:=h;exact⟨g,rfl,λk F=>A k (h k F)⟩
 |nd s own sz n f A=>intro v' h;obtain⟨g,rfl,h⟩:=h;exact⟨g,rfl,λi k hi F=>A i k (h i k hi F)⟩
 |rs id p off len=>intro v' h;exact h
 |rp id p i k=>intro v' h;exact h
 |rm id p=>intro v' h;exact h
 |mp own l=>intro v' h;exact h
def Sub.refl(v:V):Sub v v:=Eqv.sub (Eqv.refl v)
def Sub.of_eq(h:v=v'):Sub v v':=h▸Sub.refl v
theorem Sub.trans:∀{v v' A:V},Sub v v'->Sub v' A->Sub v A:=by
 intro v
 induction v with
 |c v=>
  intro v' A h F;rcases h with rfl|⟨rfl,own,sz,f,rfl⟩
  .exact F
  .obtain⟨g,rfl,_⟩:=F;exact .inr ⟨rfl,_,_,_,rfl⟩
 |dead=>intro v' A h F;cases h;exact F
 |many t n f U=>intro v' A h F;obtain⟨g,rfl,h⟩:=h;obtain⟨W,rfl,F⟩:=F;exact⟨W,rfl,λk H=>U k (h k H) (F k H)⟩
 |nd s own sz n f U=>intro v' A h F;obtain⟨g,rfl,h⟩:=h;obtain⟨W,rfl,F⟩:=F;exact⟨W,rfl,λi k hi H=>U i k (h i k hi H) (F i k hi H)⟩
 |rs id p off len=>intro v' A h F;cases h;exact F
 |rp id p i k=>intro v' A h F;cases h;exact F
 |rm id p=>intro v' A h F;cases h;exact F
 |mp own l=>intro v' A h F;cases h;exact F
def Ah(l:List V):V:=.many .ag l.length λk=>l.getD k .dead
def tab:Nat->(Nat->V)->List V
 |0,_=>[]
 |n+1,g=>g 0::tab n λk=>g (k+1)
def Lf:∀(n:Nat) (g:Nat->V),(tab n g).length=n
 |0,_=>rfl
 |n+1,g=>by unfold tab;simp[Lf n]
def QF:∀(n:Nat) (g:Nat->V) (k:Nat),k<n->(tab n g).getD k .dead=g k
 |0,_,_,h=>by omega
 |n+1,g,0,_=>rfl
 |n+1,g,k+1,h=>QF n (λk=>g (k+1)) k (by omega)
def Pt(n:Nat)(g:Nat->V):Eqv (.many .ag n g) (Ah (tab n g)):=by
 refine⟨λk=>(tab n g).getD k .dead,by unfold Ah;rw[Lf],λk A=>?_⟩
 show Eqv (g k) ((tab n g).getD k .dead);rw[QF n g k A];exact Eqv.refl _
def A3(own:Bool)(l:List V):V:=.nd false own l.length 1 λi k=>([l].getD i []).getD k .dead
def arr{α:Type}(own:Bool)(sz:Nat)(g:α->List V)(d:α)(l:List α):V:=.nd true own sz l.length λi k=>(g (l.getD i d)).getD k .dead
def ints(own:Bool)(xs:List Int):V:=arr own 1 (λn=>[.c (.int .i64 n)]) 0 xs
def rows(own:Bool)(A:List (List Int)):V:=arr own 1 (λxs=>[ints own xs]) [] A
end Go.Ve

