/- Parts of trees are handed to a callee that writes them: they are cut out, and put back. -/
import Derived.Test.YtojjlnbnneemaaaVy
set_option linter.all false
namespace Go.Ve
def ZH{i k:Nat}{p:List (Nat×Nat)}{s o:Bool}{sz n:Nat}{f:Nat->Nat->V}{x:V}:upd ((i,k)::p) (.nd s o sz n f) x=.nd s o sz n λi' k'=>if i'=i/\k'=k then upd p (f i k) x else f i' k':=rfl
def K0:∀(p:List (Nat×Nat)) (v x y:V),upd p (upd p v x) y=upd p v y
 |[],_,_,_=>rfl
 |(i,k)::p,v,x,y=>by
  cases v with
  |nd s o sz n f=>
   rw[ZH,ZH]
   congr 1
   funext i' k'
   by_cases h:i'=i/\k'=k
   .simp[h,if_true];exact K0 p _ _ _
   grind
  |_=>rfl
theorem Sub.upd:∀(p:List (Nat×Nat)) {v v' x:V},Sub v v'->Sub (Go.Ve.upd p v x) (Go.Ve.upd p v' x)
 |[],_,_,_,_=>Sub.refl _
 |(i,k)::p,v,v',x,h=>by
  cases v with
  |nd s o sz n f=>
   obtain⟨g,rfl,e⟩:=h;refine⟨_,rfl,λi' k' B A=>?_⟩
   by_cases E:i'=i/\k'=k
   .obtain⟨rfl,rfl⟩:=E
    simp[if_true];exact Sub.upd p (e _ _ B A)
   grind
  |c v=>
   rcases h with rfl|⟨rfl,own,sz,f,rfl⟩
   .exact Sub.refl _
   .exact .inr ⟨rfl,own,sz,_,rfl⟩
  |dead=>cases h;rfl
  |many t n f=>obtain⟨g,rfl,e⟩:=h;exact⟨g,rfl,e⟩
  |rs=>cases h;rfl
  |rp=>cases h;rfl
  |rm=>cases h;rfl
  |mp=>cases h;rfl
structure VC(M:V->V)(S:Nat->List (Nat×Nat)->Prop):Prop where
 m:Bg M
 rs:∀id q off len,S id q->M (.rs id q off len)=.rs id q off len
 rp:∀id q i k,S id q->M (.rp id q i k)=.rp id q i k
 rm:∀id q,S id q->M (.rm id q)=.rm id q
def VC.weak{M:V->V}{S S':Nat->List (Nat×Nat)->Prop}(A:VC M S)(h:∀id q,S' id q->S id q):VC M S':=
 ⟨A.m,λid q off len e=>A.rs id q off len (h id q e),λid q i k e=>A.rp id q i k (h id q e),λid q e=>A.rm id q (h id q e)⟩
abbrev PRef:=Nat×List (Nat×Nat)
end Go.Ve


namespace Go.Ve
variable{J:List Nat}
def Hl(J:List Nat):V->V
 |.rs id q off len=>if id∈J/\q≠[]then .dead else .rs id q off len
 |.rp id q i k=>if id∈J/\q≠[]then .dead else .rp id q i k
 |.rm id q=>if id∈J/\q≠[]then .dead else .rm id q
 |.many t n f=>.many t n λk=>Hl J (f k)
 |v=>v
def OC(J:List Nat):Bg (Hl J):=⟨λ_=>rfl,rfl,λ_ _ _ _ _=>rfl,λ_ _=>rfl,λ_ _ _=>rfl⟩
theorem Vf{S:Nat->List (Nat×Nat)->Prop}(h:∀id q,S id q->¬ (id∈J/\q≠[])):VC (Hl J) S:=
 ⟨OC J,λid q off len e=>by unfold Hl;grind,λid q i k e=>by unfold Hl;grind,λid q e=>by unfold Hl;grind⟩
def HH:List Nat->List V->List V->List V
 |j::J,v::vs,σ=>HH J vs (σ.set j v)
 |_,_,σ=>σ
def CQ:∀(J:List Nat) (e σ:List V),(HH J e σ).length=σ.length
 |j::J,v::e,σ=>by show(HH J e (σ.set j v)).length=_;rw[CQ];simp
 |[],_,σ=>rfl
 |_::_,[],σ=>rfl
def Hf:∀(J:List Nat) (e σ:List V) (i:Nat),i∉J->(HH J e σ).getD i .dead=σ.getD i .dead
 |j::J,v::e,σ,i,h=>by
  simp[not_or]at h;show(HH J e (σ.set j v)).getD i .dead=_;rw[Hf J e _ i h.2,Af (Ne.symm h.1)]
 |[],_,σ,_,_=>rfl
 |_::_,[],σ,_,_=>rfl
theorem Jo:∀(J:List Nat) (e σ:List V) (k:Nat),J.Nodup->e.length=J.length->(∀j∈J,j<σ.length)->k<J.length->(HH J e σ).getD (J.getD k 0) .dead=e.getD k .dead
 |j::J,v::e,σ,k,hn,hl,hj,hk=>by
  obtain⟨B,A⟩:=List.nodup_cons.1 hn;cases k with
  |zero=>
   show(HH J e (σ.set j v)).getD j .dead=v;rw[Hf J e _ j B,Ag (hj j (List.mem_cons_self ..))]
  |succ k=>exact Jo J e _ k A (by grind) (λi E=>by grind) (by simp_all)
 |[],_,_,_,_,_,_,hk=>by trivial
 |_::_,[],_,_,_,hl,_,_=>by trivial
theorem CR.swap{C:Ctx}{σ ts:List V}{cts:Array Value}{w w':World}{D D':Nat->Prop}{ρ:Nat->Value}{F F1:Nat->Nat->Prop}(h:CR C σ ts cts w D ρ F)(hJ:J.Nodup)(hJl:∀j∈J,j<σ.length){M:List V}(hl:M.length=J.length)
  (wr1:Bs M w' D' (λk=>ρ (J.getD k 0)) F1) (hfr:Fr w w' (λb=>∃j∈J,F j b)) (hF1:∀i b,F1 i b->(∃j∈J,F j b)\/w.heap.size<=b) (hD1:∀b,D b->D' b) (hD2:∀b,D' b->D b\/(∃j∈J,F j b)\/w.heap.size<=b)
  (hn:∀k,k<J.length->∃s sz n f f',σ.getD (J.getD k 0) .dead=.nd s true sz n f/\M.getD k .dead=.nd s true sz n f'):∃F',CR C (HH J M σ) (ts.map (Hl J)) cts w' D' ρ F'/\∀i b,F' i b->(i∉J/\F i b)\/∃k,F1 k b:=by
 have hsame:∀b,b<w.heap.size->¬ (∃j∈J,F j b)->w'.heap[b]? =w.heap[b]?:=hfr.block;have hDs:∀b,D b->w'.heap[b]? =w.heap[b]?:=λb B=>hsame b (h.wr.Dlt b B) fun⟨j,_,hF⟩=>h.wr.dD j b hF B
 have hFs:∀i b,i∉J->F i b->w'.heap[b]? =w.heap[b]?:=λi b hi B=>hsame b (h.wr.lt i b B) fun⟨j,hj,hF⟩=>h.wr.disj i j b (λe=>hi (e▸hj)) B hF
 have E:∀i,i∈J->∃k,k<J.length/\J.getD k 0=i:=λi hi=>by
  obtain⟨k,L,rfl⟩:=List.getElem_of_mem hi;exact⟨k,L,by simp[L]⟩
 have hinj:∀k k',k<J.length->k'<J.length->J.getD k 0=J.getD k' 0->k=k':=λk k' h1 h2 he=>by
  simp only[gDE,gEE h1,gEE h2,Option.getD_some]at he;rcases Nat.lt_trichotomy k k' with hlt|heq|hlt
  .exact absurd he (List.pairwise_iff_getElem.1 hJ k k' h1 h2 hlt)
  .exact heq
  .exact absurd he.symm (List.pairwise_iff_getElem.1 hJ k' k h2 h1 hlt)
 have hmem:∀k,k<J.length->J.getD k 0∈J:=λk L=>by simp[L]
 let F':Nat->Nat->Prop:=λi b=>(i∉J/\F i b)\/∃k,k<J.length/\J.getD k 0=i/\F1 k b
 have U:∀k,k<J.length->∀b,F' (J.getD k 0) b↔F1 k b:=λk L b=>by
  constructor
  .rintro (⟨h1,_⟩|⟨k',hk',he,B⟩)
   .exact absurd (hmem k L) h1
   .rw[hinj k' k hk' L he]at B;exact B
  .intro B;exact .inr ⟨k,L,rfl,B⟩
 have O:∀i,i∉J->∀b,F' i b↔F i b:=λi hi b=>by
  constructor
  .rintro (⟨_,h1⟩|⟨k,L,he,_⟩)
   .exact h1
   .exact absurd (he▸hmem k L) hi
  .intro B;exact .inl ⟨hi,B⟩
 refine⟨F',⟨⟨λi hi=>?_,λi j b hij B hb'=>?_,λi b B hD=>?_,wr1.Dlt,λi b hi B=>?_⟩,by simpa using h.sz,λt ht=>?_,?_,λi b B=>?_,λb B=>hD1 b (h.D1 b B),λb B hlt=>?_,h.rt,by rw[CQ];exact h.ml⟩,λi b B=>B.imp id fun⟨k,_,_,B⟩=>⟨k,B⟩⟩
 .rw[CQ]at hi
  by_cases A:i∈J
  .obtain⟨k,L,rfl⟩:=E i A
   rw[Jo J M σ k hJ hl hJl L];exact Rel.fp_congr (λb=>(U k L b).symm) (wr1.rel k (by omega))
  .rw[Hf J M σ i A]
   refine Rel.fp_congr (λb=>(O i A b).symm) (Rel.mono hD1 (λ_ _ h=>h) _ _ _ (λb B=>?_) (h.wr.rel i hi))
   exact B.elim (hDs b) (hFs i b A)
 .by_cases A:i∈J<;>by_cases hjJ:j∈J
  .obtain⟨k,L,rfl⟩:=E i A
   obtain⟨l,Y,rfl⟩:=E j hjJ;exact wr1.disj k l b (λe=>hij (e▸rfl)) ((U k L b).1 B) ((U l Y b).1 hb')
  .obtain⟨k,L,rfl⟩:=E i A
   have h2:=(O j hjJ b).1 hb';rcases hF1 k b ((U k L b).1 B)with⟨l,Y,W⟩|W
   .exact h.wr.disj l j b (λe=>hjJ (e▸Y)) W h2
   .have:=h.wr.lt j b h2;omega
  .obtain⟨l,Y,rfl⟩:=E j hjJ
   have h2:=(O i A b).1 B;rcases hF1 l b ((U l Y b).1 hb')with⟨m,hm,W⟩|W
   .exact h.wr.disj m i b (λe=>A (e▸hm)) W h2
   .have:=h.wr.lt i b h2;omega
  .exact h.wr.disj i j b hij ((O i A b).1 B) ((O j hjJ b).1 hb')
 .by_cases A:i∈J
  .obtain⟨k,L,rfl⟩:=E i A
   exact wr1.dD k b ((U k L b).1 B) hD
  .have h2:=(O i A b).1 B
   rcases hD2 b hD with W|⟨j,hj,W⟩|W
   .exact h.wr.dD i b h2 W
   .exact h.wr.disj i j b (λe=>A (e▸hj)) h2 W
   .have:=h.wr.lt i b h2;omega
 .rw[CQ]at hi
  by_cases A:i∈J
  .have:=hJl i A;omega
  .exact h.wr.out i b hi ((O i A b).1 B)
 .simp at ht
  have e1:(ts.map (Hl J)).getD t .dead=Hl J (ts.getD t .dead):=by simp[ht]
  rw[e1];refine Rel.mono (w:=w') (D:=D) hD1 (λ_ _ h=>h) _ _ _ (λ_ _=>rfl) ((OC J).rel hDs ?_ ?_ ?_ _ _ noF (λ_ h=>h) (h.tm t ht))
  .rintro id p off len cv ⟨Z,sz,n,f,cn,ha,hle,hcv⟩
   unfold Hl;split
   .exact λ_ h=>h
   .rename_i L
    refine⟨⟨by rw[CQ];exact Z,?_⟩,λ_ h=>h⟩
    by_cases A:id∈J
    .have hp:p=[]:=Classical.byContradiction λhp=>L ⟨A,hp⟩
     subst hp;obtain⟨k,hk',rfl⟩:=E id A;obtain⟨s',sz',n',f1,f2,g1,g2⟩:=hn k hk';obtain⟨ha1,ha2⟩:=ha;rw[g1]at ha1;cases ha1;refine⟨sz,n,f2,cn,?_,hle,hcv⟩;rw[Jo J M σ k hJ hl hJl hk',g2];exact⟨rfl,ha2⟩
    .refine⟨sz,n,f,cn,?_,hle,hcv⟩
     rw[Hf J M σ id A];exact At.same (h.wr.rel id Z) ha λb B=>hFs id b A B
  .rintro id p i k cv ⟨Z,s,sz,n,f,b,o,cap,ha,h1,h2,hcv⟩
   unfold Hl;split
   .exact λ_ h=>h
   .rename_i L
    refine⟨⟨by rw[CQ];exact Z,?_⟩,λ_ h=>h⟩
    by_cases A:id∈J
    .have hp:p=[]:=Classical.byContradiction λhp=>L ⟨A,hp⟩
     subst hp;obtain⟨l,Y,rfl⟩:=E id A;obtain⟨s',sz',n',f1,f2,g1,g2⟩:=hn l Y;obtain⟨ha1,ha2⟩:=ha;rw[g1]at ha1;cases ha1;refine⟨s,sz,n,f2,b,o,cap,?_,h1,h2,hcv⟩;rw[Jo J M σ l hJ hl hJl Y,g2];exact⟨rfl,ha2⟩
    .refine⟨s,sz,n,f,b,o,cap,?_,h1,h2,hcv⟩
     rw[Hf J M σ id A];exact At.same (h.wr.rel id Z) ha λb B=>hFs id b A B
  .rintro id p cv ⟨Z,l,b,ha,hcv⟩
   unfold Hl;split
   .exact λ_ h=>h
   .rename_i L
    refine⟨⟨by rw[CQ];exact Z,l,b,?_,hcv⟩,λ_ h=>h⟩
    by_cases A:id∈J
    .have hp:p=[]:=Classical.byContradiction λhp=>L ⟨A,hp⟩
     subst hp;obtain⟨k,hk',rfl⟩:=E id A;obtain⟨s',sz',n',f1,f2,g1,g2⟩:=hn k hk';obtain⟨ha1,ha2⟩:=ha;rw[g1]at ha1;cases ha1
    .rw[Hf J M σ id A]
     exact At.same (h.wr.rel id Z) ha λb B=>hFs id b A B
 .refine⟨hfr.os.trans h.fr.os,hfr.tape.trans h.fr.tape,hfr.output.trans h.fr.output,Nat.le_trans h.fr.size hfr.size,λb B hW=>?_,Nat.le_trans h.fr.drawn hfr.drawn⟩
  rw[hsame b (Nat.lt_of_lt_of_le B h.fr.size) fun⟨j,_,hF⟩=>(h.Fn j b hF).elim hW λh=>by omega]
  exact h.fr.block b B hW
 .rcases B with⟨_,B⟩|⟨k,L,_,B⟩
  .exact h.Fn i b B
  .rcases hF1 k b B with⟨j,_,W⟩|W
   .exact h.Fn j b W
   .exact .inr (Nat.le_trans h.fr.size W)
 .rcases hD2 b B with W|⟨j,_,W⟩|W
  .exact h.D2 b W hlt
  .exact(h.Fn j b W).elim .inr λh=>by omega
  .have:=h.fr.size;omega
end Go.Ve


namespace Go.Ve
variable{C:Ctx}{w:World}
def FCM(P:Program)(f:FuncId)(args σ0:List V)(r:V)(A:List V):Prop:=
 ∀(w:World) (D:Nat->Prop) (ρ:Nat->Value) (F:Nat->Nat->Prop) (cvs:Array Value),Wok w->(∀p,AaV=some p->∀i,¬F i p.1)->Bs σ0 w D ρ F->cvs.size=args.length->(∀i,i<args.length->Rel D w (Am σ0 ρ w) (args.getD i .dead) (cvs.getD i undef) noF)->
  Calls P f cvs w λe w'=>∃(cv:Value) (fp D':Nat->Prop) (F':Nat->Nat->Prop),e=.returned cv/\Rel D' w' noR r cv fp/\Bs A w' D' ρ F'/\Fr w w' (λb=>∃i,F i b)/\
   (∀b,fp b->((∃j,F j b)\/w.heap.size<=b)/\¬D' b/\∀i,¬F' i b)/\(∀i b,F' i b->(∃j,F j b)\/w.heap.size<=b)/\(∀b,D b->D' b)/\(∀b,D' b->D b\/(∃j,F j b)\/w.heap.size<=b)
def Zw{P:Program}{σ ts:List V}{cts:Array Value}{D:Nat->Prop}{ρ:Nat->Value}{F:Nat->Nat->Prop}(h:CR C σ ts cts w D ρ F){f:FuncId}{args:List V}{J:List Nat}{r:V}{L:List V}{cvs:Array Value}
  {σ0:List V} (hc:FCM P f args σ0 r L) (hl0:σ0.length=J.length) (hs0:∀k,k<J.length->Sub (σ.getD (J.getD k 0) .dead) (σ0.getD k .dead)) (hJ:J.Nodup) (hJl:∀j∈J,j<σ.length) (hl1:L.length=J.length)
  (hsz:∀k,k<J.length->∃s sz n f f',σ.getD (J.getD k 0) .dead=.nd s true sz n f/\L.getD k .dead=.nd s true sz n f')
  (hcs:cvs.size=args.length) (Y:∀i,i<args.length->Rel D w (Am σ0 (λk=>ρ (J.getD k 0)) w) (args.getD i .dead) (cvs.getD i undef) noF):
  Calls P f cvs w λe w'=>∃(cv:Value) (fp D':Nat->Prop) (F':Nat->Nat->Prop),e=.returned cv/\CR C (HH J L σ) (ts.map (Hl J)) cts w' D' ρ F'/\Rel D' w' noR r cv fp/\∀b,fp b->(C.W b\/C.w0.heap.size<=b)/\¬D' b/\∀i,¬F' i b:=by
 have Z:∀k k',k<J.length->k'<J.length->J.getD k 0=J.getD k' 0->k=k':=λk k' E h2 he=>by
  simp only[gDE,gEE E,gEE h2,Option.getD_some]at he;rcases Nat.lt_trichotomy k k' with hlt|heq|hlt
  .exact absurd he (List.pairwise_iff_getElem.1 hJ k k' E h2 hlt)
  .exact heq
  .exact absurd he.symm (List.pairwise_iff_getElem.1 hJ k' k h2 E hlt)
 have M:∀k,k<J.length->J.getD k 0∈J:=λk hk=>by simp[hk]
 have wr0:Bs σ0 w D (λk=>ρ (J.getD k 0)) (λk b=>k<J.length/\F (J.getD k 0) b):=by
  refine⟨λi U=>?_,λi j b hij A hb'=>?_,λi b A=>h.wr.dD _ b A.2,h.wr.Dlt,λi b U A=>?_⟩
  .have U:i<J.length:=by omega
   exact Rel.fp_congr (λb=>⟨λA=>⟨U,A⟩,λA=>A.2⟩) (Rel.sub (hs0 i U) (h.wr.rel _ (hJl _ (M i U))))
  .exact h.wr.disj _ _ b (λe=>hij (Z i j A.1 hb'.1 e)) A.2 hb'.2
  .have:=A.1;omega
 have hG:∀b,(∃i,i<J.length/\F (J.getD i 0) b)->∃j∈J,F j b:=λb ⟨i,U,A⟩=>⟨J.getD i 0,M i U,A⟩
 refine(hc w D _ _ cvs h.ok (λp hp i hF=>(h.Fn _ _ hF.2).elim (C.ok.2 p hp) λhle=>by have:=C.ok.1.lt hp;omega) wr0 hcs Y).mono λe w' O=>?_
 obtain⟨cv,fp,D',F1,rfl,hr,wr1,B,hfp,hF1,hD1,hD2⟩:=O;have hfr':Fr w w' (λb=>∃j∈J,F j b):=⟨B.os,B.tape,B.output,B.size,λb A hn=>B.block b A λhx=>hn (hG b hx),B.drawn⟩
 obtain⟨F',hsw,hF'⟩:=h.swap hJ hJl hl1 wr1 hfr' (λi b A=>(hF1 i b A).imp (hG b) id) hD1 (λb A=>(hD2 b A).imp id λh=>h.imp (hG b) id) hsz
 refine⟨cv,fp,D',F',rfl,hsw,hr,λb A=>?_⟩
 obtain⟨E,h2,h3⟩:=hfp b A;refine⟨?_,h2,λi hF=>?_⟩
 .rcases E with E|E
  .obtain⟨j,_,hj⟩:=hG b E
   exact h.Fn j b hj
  .exact .inr (Nat.le_trans h.fr.size E)
 .rcases hF' i b hF with⟨h4,h5⟩|⟨k,h4⟩
  .rcases E with E|E
   .obtain⟨j,hj,hF2⟩:=hG b E
    exact h.wr.disj i j b (λe=>h4 (e▸hj)) h5 hF2
   .have:=h.wr.lt i b h5;omega
  .exact h3 k h4
def Ms.turn(S:Ms)(J:List Nat)(e:List V):Ms:=⟨λx=>Hl J (S.t x),HH J e S.σ⟩
def Zu{P:Program}{h:Cz}{S:Ms}{a:Act}{o:Oper}{f:FuncId}{cvs:Array Value}{args:List V}{J:List Nat}{r:V}{B:List V}{next:Act->World->Prop}{Q:Exit->Act->World->Prop}(hs:AU C h.n S a w)
  (Y:(execOp a.eval o).run P w=.ok (.enter f cvs) w) {σ0:List V} (hc:FCM P f args σ0 r B) (hl0:σ0.length=J.length) (hs0:∀k,k<J.length->Sub (S.σ.getD (J.getD k 0) .dead) (σ0.getD k .dead)) (hJ:J.Nodup) (hJl:∀j∈J,j<S.σ.length) (hl1:B.length=J.length)
  (hsz:∀k,k<J.length->∃s sz n f f',S.σ.getD (J.getD k 0) .dead=.nd s true sz n f/\B.getD k .dead=.nd s true sz n f') (hcs:cvs.size=args.length)
  (W:∀D ρ F,CR C S.σ ((List.range h.n).map S.t) a.tmps w D ρ F->∀i,i<args.length->Rel D w (Am σ0 (λk=>ρ (J.getD k 0)) w) (args.getD i .dead) (cvs.getD i undef) noF)
  (hd:∀d,o.dst=some d->d<h.n/\h.fz.contains d=false) (hn:∀a' w',AU C h.n ((S.turn J B).res h o.dst r) a' w'->next a' w'):o.wp P a w next Q:=by
 obtain⟨hd0,hdd,D,ρ,F,hcr⟩:=hs;unfold Oper.wp;rw[Y,Oper.upon_enter];refine(Zw hcr hc hl0 hs0 hJ hJl hl1 hsz hcs (W D ρ F hcr)).mono λe w' hp=>?_
 obtain⟨cv,fp,D',F',rfl,A,hr,M⟩:=hp;have e:((List.range h.n).map S.t).map (Hl J)=(List.range h.n).map (S.turn J B).t:=by rw[List.map_map];rfl
 rw[e]at A
 have O:∀x,h.n<=x->(S.turn J B).t x=.dead:=λx hx=>by
  show Hl J (S.t x)=.dead;rw[hdd x hx];rfl
 cases L:(o.dst:Option Nat)with
 |none=>
  refine hn _ _ ?_;rw[L];exact⟨hd0,O,D',ρ,F',A⟩
 |some d=>
  obtain⟨U,hfz⟩:=hd d L;refine hn _ _ ?_;rw[L];unfold Ms.res;simp only[U,if_true,hfz,Bool.false_eq_true,if_false];refine⟨hd0,λy hy=>?_,?_⟩
  .show AJ _ d _ y=.dead
   have:¬y=d:=λe=>absurd U (Nat.not_lt.2 (e▸hy))
   unfold AJ;rw[if_neg this];exact O y hy
  .have h1:=A.own (G:=fp) (λi b E Z=>(M b Z).2.2 i E) (λb E Z=>(M b Z).2.1 E) (λb E=>(M b E).1) rfl rfl rfl (Nat.le_refl _) (Nat.le_refl _) (λ_ _ _=>rfl) hr (λb E=>.inl E) (λ_ h=>h) (λb E=>.inl E) (λb E=>⟨A.wr.Dlt b E,λZ=>(M b Z).2.1 E⟩) d
   rw[BL,<-CS U];exact h1
end Go.Ve


namespace Go.Ve
end Go.Ve

