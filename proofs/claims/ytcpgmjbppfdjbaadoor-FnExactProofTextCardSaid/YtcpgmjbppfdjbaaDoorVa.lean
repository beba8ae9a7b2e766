/- The abstract values of a small machine over trees, and what it means that a value of memory reads as one of them. -/
import Derived.WalkKit
import Derived.Below
import Derived.Lib.LaidTab
import Derived.Lib.ItoaNum
namespace Go.Ve
variable{cs:Array Value}{own s:Bool}{B b cap g i m n o:Nat}{D D' fp:Nat->Prop}{p:Prop}{α:Type _}{T:TypeId}{cv:Value}{w w':World}
theorem dT[inst:Decidable p](h:p):decide p=true:=decide_eq_true h
theorem dF[inst:Decidable p](h:¬p):decide p=false:=decide_eq_false h
theorem bqE(h:n.beq m=true):n=m:=Nat.eq_of_beq_eq_true h
theorem blE(h:n.ble m=true):n<=m:=Nat.le_of_ble_eq_true h
theorem gAR{l1 l2:List α}(h:l1.length<=i):(l1++l2)[i]? =l2[i-l1.length]?:=List.getElem?_append_right h
theorem gAL{l1 l2:List α}(h:i<l1.length):(l1++l2)[i]? =l1[i]?:=List.getElem?_append_left h
theorem tNC(n:Nat):(n:Int).toNat=n:=Int.toNat_natCast n
theorem mCM{a:α}{l:List α}(y:α)(h:a∈l):a∈y::l:=List.mem_cons_of_mem y h
theorem gDE{l:List α}{a:α}:l.getD i a=l[i]?.getD a:=List.getD_eq_getElem?_getD
theorem bAE(a b:Bool):((a&&b)=true)=(a=true/\b=true):=Bool.and_eq_true a b
theorem aET{p:α->Bool}{l:List α}:l.all p=true<->∀x,x∈l->p x=true:=List.all_eq_true
theorem gEE{l:List α}(h:i<l.length):l[i]? =some l[i]:=List.getElem?_eq_getElem h
def dz(_:World):Nat:=0
structure Below(B:Nat)(w w':World):Prop where
 os:w'.os=w.os
 tape:w'.tape=w.tape
 output:w'.output=w.output
 size:w.heap.size<=w'.heap.size
 block: ∀k,k<B->w'.heap[k]? =w.heap[k]?
 drawn:dz w<=dz w'
theorem Below.refl(B:Nat)(w:World):Below B w w:=⟨rfl,rfl,rfl,Nat.le_refl _,λ_ _=>rfl,Nat.le_refl _⟩
theorem Below.trans{B:Nat}{a b c:World}(h:Below B a b)(k:Below B b c):Below B a c:=
 ⟨k.os.trans h.os,k.tape.trans h.tape,k.output.trans h.output,Nat.le_trans h.size k.size,λi hi=>(k.block i hi).trans (h.block i hi),Nat.le_trans h.drawn k.drawn⟩
theorem Below.mono{B':Nat}(h:Below B w w')(hB:B'<=B):Below B' w w':=⟨h.os,h.tape,h.output,h.size,λk hk=>h.block k (Nat.lt_of_lt_of_le hk hB),h.drawn⟩
theorem Below.heap_alloc(w:World)(o:Obj)(k:Nat)(h:k<w.heap.size):(w.alloc o).heap[k]? =w.heap[k]?:=RowKit.Below.heap_alloc w o k h
theorem Below.heap_setCell(w:World)(a:Addr)(u:Value)(k:Nat)(h:k≠a.block):(w.setCell a u).heap[k]? =w.heap[k]?:=RowKit.Below.heap_setCell w a u k h
theorem Below.alloc{B:Nat}{a w:World}(h:Below B a w)(hB:B<=w.heap.size)(o:Obj):Below B a (w.alloc o):=
 h.trans ⟨rfl,rfl,rfl,by simp,λk hk=>Below.heap_alloc _ _ _ (by omega),Nat.le_refl _⟩
theorem Below.setCell{B:Nat}{a w:World}(h:Below B a w){p:Addr}(hp:B<=p.block)(u:Value):Below B a (w.setCell p u):=
 h.trans ⟨rfl,rfl,rfl,by simp [World.setCell],λk hk=>Below.heap_setCell _ _ _ _ (by omega),Nat.le_refl _⟩
theorem Below.row(h:Below B w w'):RowKit.Below B w w':=⟨h.os,h.tape,h.output,h.size,h.block⟩
inductive Tg where
 |ag|tu|bx|cl (g:Nat)
deriving DecidableEq
inductive V where
 |c (v:Value)
 |dead
 |many (t:Tg) (n:Nat) (f:Nat->V)
 |nd (s own:Bool) (sz n:Nat) (f:Nat->Nat->V)
 |rs (id:Nat) (p:List (Nat×Nat)) (off len:Nat)
 |rp (id:Nat) (p:List (Nat×Nat)) (i k:Nat)
variable{v v':V}{R:V->Value->Prop}
instance:Inhabited V:=⟨.dead⟩
def As(s:Bool)(b o n cap:Nat):Value:=if s then .slice (some ⟨b,o,none⟩) n cap else .pointer (some ⟨b,o,none⟩)
def nilS(cv:Value):Prop:=∃a:Option Addr,cv= .slice a 0 0/\∀x,a=some x->x.spot≠none
theorem V5:nilS (.slice none 0 0):=⟨none,rfl,λ_ e=>by cases e⟩
theorem OL: ¬nilS (As s b o n cap):=by
 rintro ⟨a,e,h⟩
 cases s with
 |false=>cases e
 |true=>
  cases e;exact h _ rfl rfl
def AaL(own:Bool)(cv:Value):Prop:=cv= .slice none 0 0\/(own=false/\nilS cv)
theorem Dn(h:AaL true cv):cv= .slice none 0 0:=h.resolve_right λe=>by cases e.1
theorem By: ¬AaL own (As s b o n cap):=by
 rintro (h|⟨_,h⟩)
 ·cases s<;>cases h
 ·exact OL h
theorem PP(h:AaL own cv):AaL false cv:=h.elim .inl λh=>.inr ⟨rfl,h.2⟩
theorem Ch(h:AaL own cv): ∃a,cv= .slice a 0 0:=h.elim (λh=>⟨none,h⟩) fun⟨_,a,h,_⟩=>⟨a,h⟩
def noR:V->Value->Prop:=λ_ _=>False
def noF:Nat->Prop:=λ_=>False
def Xd(g:Nat)(cs:Array Value):Value:=bif Nat.blt g 1000000 then .func (.func g) #[] cs else .iface (g-1000000) (cs.getD 0 undef)
theorem WL(h:Nat.blt g 1000000=true):Xd g cs= .func (.func g) #[] cs:=by unfold Xd;rw [h];rfl
theorem Y6{t:Nat}:Xd (1000000+t) cs= .iface t (cs.getD 0 undef):=by
 unfold Xd
 have h:Nat.blt (1000000+t) 1000000=false:=by
  cases hb:Nat.blt (1000000+t) 1000000 with
  |false=>rfl
  |true=>
   have:=blE hb;omega
 rw [h,cond_false,Nat.add_sub_cancel_left]
theorem Yr:(Xd g cs).oneCell'=true:=by
 unfold Xd;cases Nat.blt g 1000000<;>rfl
def KD(D:Nat->Prop)(w:World):Tg->Array Value->Value->Prop
 | .ag,cs,cv=>cv= .agg cs
 | .tu,cs,cv=>cv= .tuple cs
 | .cl g,cs,cv=>cv=Xd g cs
 | .bx,cs,cv=>∃b o,cv= .pointer (some ⟨b,o,none⟩)/\(0<cs.size->D b)/\∀k,k<cs.size->w.cell? ⟨b,o+k,none⟩=some (cs.getD k undef)
theorem O6{a:Addr}(h:w'.heap[a.block]? =w.heap[a.block]?):w'.cell? a=w.cell? a:=by
 unfold World.cell?;rw [h]
theorem KD.mono{t:Tg}(h:KD D w t cs cv)(hD: ∀b,D b->D' b)(hw: ∀b,D b->w'.heap[b]? =w.heap[b]?):KD D' w' t cs cv:=by
 cases t with
 |ag=>exact h
 |tu=>exact h
 |cl g=>exact h
 |bx=>
  obtain⟨b,o,h1,h2,h3⟩:=h;exact⟨b,o,h1,λhp=>hD b (h2 hp),λk hk=>(O6 (w:=w) (hw b (h2 (by omega)))).trans (h3 k hk)⟩
def BL(w:World)(b:Nat)(cs:Array Value)(T:TypeId):Prop:=∃fz:Nat×Nat,w.heap[b]? =some (.cells cs T fz)/\(fz=(0,0)\/cs.size<=fz.1)
theorem BL.same(h:BL w b cs T)(hw:w'.heap[b]? =w.heap[b]?):BL w' b cs T:=by
 obtain⟨fz,h1,h2⟩:=h;exact⟨fz,hw.trans h1,h2⟩
theorem BL.plain(h:w.heap[b]? =some (.cells cs T (0,0))):BL w b cs T:=⟨_,h,.inl rfl⟩
theorem BL.frozen{w:World}{b off:Nat}{cs:Array Value}{T:TypeId}{y:Value}(h:BL w b cs T)(hc:w.cell? ⟨b,off,none⟩=some y):w.frozen? ⟨b,off,none⟩=false:=by
 obtain⟨⟨lo,hi⟩,h1,h2⟩:=h;unfold World.cell? at hc;simp only [h1,Option.isSome_none,Bool.false_eq_true,if_false]at hc;have hlt:off<cs.size:=(Array.getElem?_eq_some_iff.1 hc).1;unfold World.frozen?;rcases h2 with h2|h2
 ·cases h2;simp [h1]
 ·have h3:cs.size<=lo:=h2
  simp [h1];omega
theorem BL.lt(h:BL w b cs T):b<w.heap.size:=by
 obtain⟨_,h,_⟩:=h;exact(Array.getElem?_eq_some_iff.1 h).1
def AaG:Option (Nat×Array Value):=some (0, (Go.Lib.pow10Tab.map fun z => Go.Value.int .u64 z).toArray)
def Wok(w:World):Prop:=∀p,AaG=some p->∃T fz,w.heap[p.1]? =some (.cells p.2 T fz)
theorem Wok.lt(h:Wok w){p:Nat×Array Value}(hp:AaG=some p):p.1<w.heap.size:=by
 obtain⟨_,_,h⟩:=h p hp;exact(Array.getElem?_eq_some_iff.1 h).1
theorem Wok.same(h:Wok w)(hw: ∀p,AaG=some p->w'.heap[p.1]? =w.heap[p.1]?):Wok w':=λp hp=>by
 rw [hw p hp];exact h p hp
def Rel(D:Nat->Prop)(w:World):(V->Value->Prop)->V->Value->(Nat->Prop)->Prop
 |_,.c v,cv,fp=>cv=v/\v.oneCell'=true/\∀b,¬fp b
 |_,.dead,_,fp=>∀b,¬fp b
 |R,.many t n f,cv,fp=>∃ (cs:Array Value) (F:Nat->Nat->Prop),KD D w t cs cv/\cs.size=n/\
   (∀k,k<n->Rel D w R (f k) (cs.getD k undef) (F k))/\(∀k k' b,k<n->k'<n->k≠k'->F k b->¬F k' b)/\∀b,fp b↔ ∃k,k<n/\F k b
 |_,.nd s own sz n f,cv,fp=>(n=0/\s=true/\AaL own cv/\∀b,¬fp b)\/
   ∃ (b o cap:Nat) (F:Nat->Nat->Nat->Prop),cv=As s b o n cap/\n<=cap/\n<=maxLen/\(s=false->n=1)/\
    (∀i k,i<n->k<sz->∃x,w.cell? ⟨b,o+i*sz+k,none⟩=some x/\Rel D w noR (f i k) x (F i k))/\
    (own=false->(0<n*sz->D b)/\(∀i k x,i<n->k<sz->¬F i k x)/\∀x,¬fp x)/\
    (own=true->(∃cs T,BL w b cs T/\o+cap*sz<=cs.size)/\
     (∀i k,i<n->k<sz->¬F i k b)/\
     (∀i k i' k' x,i<n->k<sz->i'<n->k'<sz->(i≠i'\/k≠k')->F i k x->¬F i' k' x)/\
     ∀x,fp x↔x=b\/∃i k,i<n/\k<sz/\F i k x)
 |R,.rs id p off len,cv,fp=>R (.rs id p off len) cv/\∀b,¬fp b
 |R,.rp id p i k,cv,fp=>R (.rp id p i k) cv/\∀b,¬fp b
theorem CW{a:Addr}(h:w'.heap[a.block]? =w.heap[a.block]?):w'.cell? a=w.cell? a:=by
 unfold World.cell?;rw [h]
theorem Rel.mono'{w w':World}(hD: ∀b,D b->D' b):
  ∀ (v:V) (R R':V->Value->Prop) (hR: ∀v cv,R v cv->R' v cv) (cv:Value) (fp:Nat->Prop),(∀b,D b\/fp b->w'.heap[b]? =w.heap[b]?)->Rel D w R v cv fp->Rel D' w' R' v cv fp:=by
 intro v
 induction v with
 |c v=>intro R R' hR cv fp _ h;exact h
 |dead=>intro R R' hR cv fp _ h;exact h
 |many t n f ih=>
  intro R R' hR cv fp hw h;obtain⟨cs,F,hcv,hn,hr,hd,hf⟩:=h;exact⟨cs,F,hcv.mono hD (λb hb=>hw b (.inl hb)),hn,λk hk=>ih k R R' hR _ _ (λb hb=>hw b (hb.imp id λh=>(hf b).2 ⟨k,hk,h⟩)) (hr k hk),hd,hf⟩
 |nd s own sz n f ih=>
  intro R R' hR cv fp hw h;rcases h with h|⟨b,o,cap,F,hcv,hcap,hmax,hs,hr,hi,ho⟩
  ·exact .inl h
  refine .inr ⟨b,o,cap,F,hcv,hcap,hmax,hs,?_,?_,?_⟩
  ·intro i k hin hk
   obtain⟨x,hx,hrx⟩:=hr i k hin hk;cases own with
   |false=>
    obtain⟨h1,h2,h3⟩:=hi rfl;have hb:D b:=h1 (Nat.mul_pos (by omega) (by omega))
    refine⟨x,by rw [CW (w:=w) (hw b (.inl hb))];exact hx,ih i k noR noR (λ_ _ h=>h) _ _ (λc hc=>hw c (hc.imp id λh=>absurd h (h2 i k c hin hk))) hrx⟩
   |true=>
    obtain⟨h1,h2,h3,h4⟩:=ho rfl;refine⟨x,by rw [CW (w:=w) (hw b (.inr ((h4 b).2 (.inl rfl))))];exact hx,ih i k noR noR (λ_ _ h=>h) _ _ (λc hc=>hw c (hc.imp id λh=>(h4 c).2 (.inr ⟨i,k,hin,hk,h⟩))) hrx⟩
  ·intro hown
   obtain⟨h1,h2,h3⟩:=hi hown;exact⟨λh=>hD _ (h1 h),h2,h3⟩
  ·intro hown
   obtain⟨⟨cs,T,h1,h1'⟩,h2,h3,h4⟩:=ho hown;exact⟨⟨cs,T,h1.same (hw b (.inr ((h4 b).2 (.inl rfl)))),h1'⟩,h2,h3,h4⟩
 |rs id p off len=>intro R R' hR cv fp _ h;exact⟨hR _ _ h.1,h.2⟩
 |rp id p i k=>intro R R' hR cv fp _ h;exact⟨hR _ _ h.1,h.2⟩
theorem Rel.mono{w w':World}{R':V->Value->Prop}(hD: ∀b,D b->D' b)(hR: ∀v cv,R v cv->R' v cv)
  (v:V) (cv:Value) (fp:Nat->Prop) (h: ∀b,D b\/fp b->w'.heap[b]? =w.heap[b]?) (hr:Rel D w R v cv fp):Rel D' w' R' v cv fp:=Rel.mono' hD v R R' hR cv fp h hr
theorem Rel.lt': ∀ (v:V) (R:V->Value->Prop) (cv:Value) (fp:Nat->Prop),Rel D w R v cv fp->∀b,fp b->b<w.heap.size:=by
 intro v
 induction v with
 |c v=>intro R cv fp h b hb;exact absurd hb (h.2.2 b)
 |dead=>intro R cv fp h b hb;exact absurd hb (h b)
 |many t n f ih=>
  intro R cv fp h b hb;obtain⟨cs,F,hcv,hn,hr,hd,hf⟩:=h;obtain⟨k,hk,hb⟩:=(hf b).1 hb;exact ih k _ _ _ (hr k hk) b hb
 |nd s own sz n f ih=>
  intro R cv fp h b hb;rcases h with h|⟨b',o,cap,F,hcv,hcap,hmax,hs,hr,hi,ho⟩
  ·exact absurd hb (h.2.2.2 b)
  cases own with
  |false=>exact absurd hb ((hi rfl).2.2 b)
  |true=>
   obtain⟨⟨cs,T,h1,h1'⟩,h2,h3,h4⟩:=ho rfl;rcases(h4 b).1 hb with rfl|⟨i,k,hin,hk,hF⟩
   ·exact h1.lt
   ·obtain⟨x,hx,hrx⟩:=hr i k hin hk
    exact ih i k _ _ _ hrx b hF
 |rs id p off len=>intro R cv fp h b hb;exact absurd hb (h.2 b)
 |rp id p i k=>intro R cv fp h b hb;exact absurd hb (h.2 b)
theorem Rel.lt(v:V)(cv:Value)(fp:Nat->Prop)(h:Rel D w R v cv fp): ∀b,fp b->b<w.heap.size:=Rel.lt' v R cv fp h
theorem Rel.fp_congr{fp':Nat->Prop}(h: ∀b,fp b↔fp' b)(hr:Rel D w R v cv fp):Rel D w R v cv fp':=by
 have:fp=fp':=funext λb=>propext (h b)
 rw [<-this];exact hr
def frz:V->V
 | .nd s _ sz n f=>.nd s false sz n λi k=>frz (f i k)
 | .many t n f=>.many t n λk=>frz (f k)
 |v=>v
theorem Rel.frz': ∀ (v:V) (R:V->Value->Prop) (cv:Value) (fp:Nat->Prop),Rel D w R v cv fp->Rel (λb=>D b\/fp b) w R (frz v) cv noF:=by
 intro v
 induction v with
 |c v=>intro R cv fp h;exact⟨h.1,h.2.1,λ_ h=>h⟩
 |dead=>intro R cv fp h;exact λ_ h=>h
 |many t n f ih=>
  intro R cv fp h;obtain⟨cs,F,hcv,hn,hr,hd,hf⟩:=h;exact⟨cs,λ_=>noF,hcv.mono (λb hb=>.inl hb) (λ_ _=>rfl),hn,λk hk=>Rel.mono (λb hb=>hb.imp id λh=>(hf b).2 ⟨k,hk,h⟩) (λ_ _ h=>h) _ _ _ (λ_ _=>rfl) (ih k _ _ _ (hr k hk)),λ_ _ _ _ _ _ h=>h.elim,λb=>⟨λh=>h.elim,fun⟨_,_,h⟩=>h⟩⟩
 |nd s own sz n f ih=>
  intro R cv fp h;rcases h with h|⟨b,o,cap,F,hcv,hcap,hmax,hs,hr,hi,ho⟩
  ·exact .inl ⟨h.1,h.2.1,PP h.2.2.1,λ_ h=>h⟩
  have hFf: ∀i k,i<n->k<sz->∀c,F i k c->fp c:=by
   intro i k hin hk c hc;cases own with
   |false=>exact absurd hc ((hi rfl).2.1 i k c hin hk)
   |true=>exact((ho rfl).2.2.2 c).2 (.inr ⟨i,k,hin,hk,hc⟩)
  have hDb:0<n*sz->D b\/fp b:=by
   intro h;cases own with
   |false=>exact .inl ((hi rfl).1 h)
   |true=>exact .inr (((ho rfl).2.2.2 b).2 (.inl rfl))
  refine .inr ⟨b,o,cap,λ_ _=>noF,hcv,hcap,hmax,hs,?_,λ_=>⟨hDb,λ_ _ _ _ _ h=>h,λ_ h=>h⟩,λh=>by cases h⟩
  intro i k hin hk;obtain⟨x,hx,hrx⟩:=hr i k hin hk;exact⟨x,hx,Rel.mono (λb hb=>hb.imp id (hFf i k hin hk b)) (λ_ _ h=>h) _ _ _ (λ_ _=>rfl) (ih i k _ _ _ hrx)⟩
 |rs id p off len=>intro R cv fp h;exact⟨h.1,λ_ h=>h⟩
 |rp id p i k=>intro R cv fp h;exact⟨h.1,λ_ h=>h⟩
theorem Rel.frz{D:Nat->Prop}{w:World}{R:V->Value->Prop}(v:V)(cv:Value)(fp:Nat->Prop)(h:Rel D w R v cv fp):Rel (λb=>D b\/fp b) w R (Go.Ve.frz v) cv noF:=Rel.frz' v R cv fp h
def Eqv:V->V->Prop
 | .c v,v'=>v'= .c v
 | .dead,v'=>v'= .dead
 | .many t n f,v'=>∃g,v'= .many t n g/\∀k,k<n->Eqv (f k) (g k)
 | .nd s own sz n f,v'=>∃g,v'= .nd s own sz n g/\∀i k,i<n->k<sz->Eqv (f i k) (g i k)
 | .rs id p off len,v'=>v'= .rs id p off len
 | .rp id p i k,v'=>v'= .rp id p i k
theorem Rel.eqv': ∀ (v v':V) (R:V->Value->Prop) (cv:Value) (fp:Nat->Prop),Eqv v v'->Rel D w R v cv fp->Rel D w R v' cv fp:=by
 intro v
 induction v with
 |c v=>intro v' R cv fp he h;cases he;exact h
 |dead=>intro v' R cv fp he h;cases he;exact h
 |many t n f ih=>
  intro v' R cv fp he h;obtain⟨g,rfl,he⟩:=he;obtain⟨cs,F,hcv,hn,hr,hd,hf⟩:=h;exact⟨cs,F,hcv,hn,λk hk=>ih k _ _ _ _ (he k hk) (hr k hk),hd,hf⟩
 |nd s own sz n f ih=>
  intro v' R cv fp he h;obtain⟨g,rfl,he⟩:=he;rcases h with h|⟨b,o,cap,F,hcv,hcap,hmax,hs,hr,hi,ho⟩
  ·exact .inl h
  refine .inr ⟨b,o,cap,F,hcv,hcap,hmax,hs,?_,hi,ho⟩;intro i k hin hk;obtain⟨x,hx,hrx⟩:=hr i k hin hk;exact⟨x,hx,ih i k _ _ _ _ (he i k hin hk) hrx⟩
 |rs id p off len=>intro v' R cv fp he h;cases he;exact h
 |rp id p i k=>intro v' R cv fp he h;cases he;exact h
theorem Rel.eqv(v v':V)(cv:Value)(fp:Nat->Prop)(he:Eqv v v')(h:Rel D w R v cv fp):Rel D w R v' cv fp:=Rel.eqv' v v' R cv fp he h
theorem Eqv.refl: ∀v,Eqv v v:=by
 intro v
 induction v with
 |c v=>rfl
 |dead=>rfl
 |many t n f ih=>exact⟨f,rfl,λk _=>ih k⟩
 |nd s own sz n f ih=>exact⟨f,rfl,λi k _ _=>ih i k⟩
 |rs id p off len=>rfl
 |rp id p i k=>rfl
def Sub:V->V->Prop
 | .c v,v'=>v'= .c v\/(v= .slice none 0 0/\∃own sz f,v'= .nd true own sz 0 f)
 | .dead,v'=>v'= .dead
 | .many t n f,v'=>∃g,v'= .many t n g/\∀k,k<n->Sub (f k) (g k)
 | .nd s own sz n f,v'=>∃g,v'= .nd s own sz n g/\∀i k,i<n->k<sz->Sub (f i k) (g i k)
 | .rs id p off len,v'=>v'= .rs id p off len
 | .rp id p i k,v'=>v'= .rp id p i k
theorem Rel.sub': ∀ (v v':V) (R:V->Value->Prop) (cv:Value) (fp:Nat->Prop),Sub v v'->Rel D w R v cv fp->Rel D w R v' cv fp:=by
 intro v
 induction v with
 |c v=>
  intro v' R cv fp he h;rcases he with rfl|⟨rfl,own,sz,f,rfl⟩
  ·exact h
  ·exact .inl ⟨rfl,rfl,.inl h.1,h.2.2⟩
 |dead=>intro v' R cv fp he h;cases he;exact h
 |many t n f ih=>
  intro v' R cv fp he h;obtain⟨g,rfl,he⟩:=he;obtain⟨cs,F,hcv,hn,hr,hd,hf⟩:=h;exact⟨cs,F,hcv,hn,λk hk=>ih k _ _ _ _ (he k hk) (hr k hk),hd,hf⟩
 |nd s own sz n f ih=>
  intro v' R cv fp he h;obtain⟨g,rfl,he⟩:=he;rcases h with h|⟨b,o,cap,F,hcv,hcap,hmax,hs,hr,hi,ho⟩
  ·exact .inl h
  refine .inr ⟨b,o,cap,F,hcv,hcap,hmax,hs,?_,hi,ho⟩;intro i k hin hk;obtain⟨x,hx,hrx⟩:=hr i k hin hk;exact⟨x,hx,ih i k _ _ _ _ (he i k hin hk) hrx⟩
 |rs id p off len=>intro v' R cv fp he h;cases he;exact h
 |rp id p i k=>intro v' R cv fp he h;cases he;exact h
theorem Rel.sub(he:Sub v v')(h:Rel D w R v cv fp):Rel D w R v' cv fp:=Rel.sub' v v' R cv fp he h
theorem Eqv.sub: ∀ {v v':V},Eqv v v'->Sub v v':=by
 intro v
 induction v with
 |c v=>intro v' h;exact .inl h
 |dead=>intro v' h;exact h
 |many t n f ih=>intro v' h;obtain⟨g,rfl,h⟩:=h;exact⟨g,rfl,λk hk=>ih k (h k hk)⟩
 |nd s own sz n f ih=>intro v' h;obtain⟨g,rfl,h⟩:=h;exact⟨g,rfl,λi k hi hk=>ih i k (h i k hi hk)⟩
 |rs id p off len=>intro v' h;exact h
 |rp id p i k=>intro v' h;exact h
theorem Sub.refl(v:V):Sub v v:=Eqv.sub (Eqv.refl v)
theorem Sub.of_eq(h:v=v'):Sub v v':=h▸Sub.refl v
theorem Sub.trans: ∀ {v v' v'':V},Sub v v'->Sub v' v''->Sub v v'':=by
 intro v
 induction v with
 |c v=>
  intro v' v'' h h';rcases h with rfl|⟨rfl,own,sz,f,rfl⟩
  ·exact h'
  ·obtain⟨g,rfl,_⟩:=h';exact .inr ⟨rfl,_,_,_,rfl⟩
 |dead=>intro v' v'' h h';cases h;exact h'
 |many t n f ih=>intro v' v'' h h';obtain⟨g,rfl,h⟩:=h;obtain⟨g',rfl,h'⟩:=h';exact⟨g',rfl,λk hk=>ih k (h k hk) (h' k hk)⟩
 |nd s own sz n f ih=>intro v' v'' h h';obtain⟨g,rfl,h⟩:=h;obtain⟨g',rfl,h'⟩:=h';exact⟨g',rfl,λi k hi hk=>ih i k (h i k hi hk) (h' i k hi hk)⟩
 |rs id p off len=>intro v' v'' h h';cases h;exact h'
 |rp id p i k=>intro v' v'' h h';cases h;exact h'
def Ac(l:List V):V:=.many .ag l.length λk=>l.getD k .dead
def tab:Nat->(Nat->V)->List V
 |0,_=>[]
 |n+1,g=>g 0::tab n λk=>g (k+1)
theorem DA: ∀ (n:Nat) (g:Nat->V),(tab n g).length=n
 |0,_=>rfl
 |n+1,g=>by unfold tab;simp [DA n]
theorem Lo: ∀ (n:Nat) (g:Nat->V) (k:Nat),k<n->(tab n g).getD k .dead=g k
 |0,_,_,h=>by omega
 |n+1,g,0,_=>rfl
 |n+1,g,k+1,h=>Lo n (λk=>g (k+1)) k (by omega)
theorem Oh(n:Nat)(g:Nat->V):Eqv (.many .ag n g) (Ac (tab n g)):=by
 refine⟨λk=>(tab n g).getD k .dead,by unfold Ac;rw [DA],λk hk=>?_⟩
 show Eqv (g k) ((tab n g).getD k .dead);rw [Lo n g k hk];exact Eqv.refl _
def A7(own:Bool)(l:List V):V:=.nd false own l.length 1 λi k=>([l].getD i []).getD k .dead
def arr{α:Type}(own:Bool)(sz:Nat)(g:α->List V)(d:α)(l:List α):V:=.nd true own sz l.length λi k=>(g (l.getD i d)).getD k .dead
def ints(own:Bool)(xs:List Int):V:=arr own 1 (λn=>[.c (.int .i64 n)]) 0 xs
def rows(own:Bool)(xss:List (List Int)):V:=arr own 1 (λxs=>[ints own xs]) [] xss
end Go.Ve

