/- The quiet operations of the small machine: addresses, arithmetic, texts, parts. -/
import Derived.Test.YtdhfaeiafmlhlaaVb
import Derived.Laws.BytesArg
set_option linter.all false
namespace Go.Ve
variable{op:BinOp}{fp:Nat->Prop}{ix x y:Operand}{P:Program}{c:Prop}{d s t:TypeId}{v vi:V}{cv z:Value}
section ops
variable {P:Program}{o:Oper}{a:Act}{w:World}{σ:List V}{D:Nat->Prop}{ρ:Nat->Value}{F:Nat->Nat->Prop}{K:V->Prop}
def J1(e:Option (Nat×Nat))(σ:List V)(x:V)(K:V->Prop):Prop:=
 match e with
 |some (off,fs)=>match x with
  |.nd false false sz n f=>off+fs<=sz/\K (.nd false false fs n λi k=>f i (off+k))
  |.rp id p i k=>k+off<A2 σ id p/\K (.rp id p i (k+off))
  |.many .bx n f=>(off+fs<=n/\(List.range fs).all (λk=>!AM (f (off+k)))=true)/\K (.many .bx fs λk=>f (off+k))
  |_=>False
 |none=>False
theorem Oh(wr:Bl σ w D ρ F){fi:Nat}(ho:o.op=.fieldAddr t x fi)(hv:OpR σ w D ρ F v (a.eval x))(h:J1 (V4 P t fi) σ v K):∃r,K r/\Au P o a w σ D ρ r:=by
 unfold J1 at h;obtain⟨fp,hr,hfD,hfF⟩:=hv;split at h
 case h_2=>exact h.elim
 rename_i off fs hfi;obtain⟨fss,f,i,hu,hf,O,hi,his,hpos⟩:=Yu hfi
 have B:∀ad,a.eval x=.pointer (some ad)->(execOp a.eval o).run P w=.ok (.value (.pointer (some (ad.add off)))) w:=by
  intro ad E;have hne:¬ (fs=0):=by omega
  unfold execOp;rw[ho];simp[Instr.fieldAt,run_underlying hu,hf,E,Instr.sureAddr,fieldPlace,sizeOf,typeInfo,hi,his,hne,O]
 split at h
 .rename_i sz n f
  obtain⟨e,W⟩:=h;obtain⟨rfl,b,J,E,Z⟩:=Nc hr;refine⟨_,W,Au.pure wr (B _ E) ?_⟩;rw[A3 rfl];refine .inr ⟨b,J+off,1,λ_ _=>noF,rfl,Nat.le_refl _,by unfold maxLen;omega,λ_=>rfl,?_,λ_=>⟨λ_=>(Z 0 (by omega)).1,λ_ _ _ _ _ h=>h,λ_ h=>h⟩,λh=>by cases h⟩
  intro i k hi0 A;obtain rfl:i=0:=by omega
  obtain⟨_,y,hy,hry⟩:=Z (off+k) (by omega)
  exact⟨y,by simpa [Nat.add_assoc]using hy,hry⟩
 .rename_i id p i' k'
  obtain⟨e,W⟩:=h;obtain⟨⟨hid,s',sz,n,f,b,J,cap,ha,hi',hk',E⟩,_⟩:=hr;have hns:A2 σ id p=sz:=by unfold A2;rw[<-At.sub ha]
  rw[hns]at e;refine⟨_,W,Au.pure wr (B _ E) ?_⟩;rw[A3 rfl];exact⟨⟨hid,s',sz,n,f,b,J,cap,ha,hi',e,by simp[Nat.add_assoc]⟩,λ_ h=>h⟩
 .rename_i n f
  obtain⟨⟨e,hto⟩,W⟩:=h;obtain⟨b,J,E,hD,Z⟩:=Ib hr;refine⟨_,W,Au.pure wr (B _ E) ?_⟩;rw[A3 rfl]
  obtain⟨cs,Y,U⟩:=BR (n:=fs) (p:=λk x=>w.cell? ⟨b,J+off+k,none⟩=some x/\Rel D w (Ak σ ρ w) (f (off+k)) x noF) λk A=>by
   obtain⟨x,fq,h1,h2⟩:=Z (off+k) (by omega)
   exact⟨x,by rw[Nat.add_assoc];exact h1,A6 (AB _ _ _ (by simpa using aET.1 hto k (List.mem_range.2 A)) h2)▸h2⟩
  refine⟨cs.toArray,λ_=>noF,⟨b,J+off,rfl,λ_=>hD (by omega),λk A=>?_⟩,by simpa using Y,λk A=>?_,λ_ _ _ _ _ _ h=>h.elim,λb=>⟨λh=>h.elim,fun⟨_,_,h⟩=>h⟩⟩
  .have A:k<fs:=by simpa [Y]using A
   have:cs[k]? =some (cs.toArray.getD k undef):=by simp[Y,A]
   exact(U k _ this).1
  .have:cs[k]? =some (cs.toArray.getD k undef):=by simp[Y,A]
   exact(U k _ this).2
 .exact h.elim
def B7(e:Option SlI)(σ:List V)(x ix:V)(K:V->Prop):Prop:=
 match e with
 |some ⟨_,size,_,_⟩=>match x,ix with
  |.nd true false sz n f,.c (.int _ i)=>sz=size/\0<sz/\(0<=i/\i<n)/\K (.nd false false sz 1 λ_ k=>f i.toNat k)
  |.rs id p off len,.c (.int _ i)=>A2 σ id p=size/\0<size/\(0<=i/\i<len)/\K (.rp id p (off+i.toNat) 0)
  |_,_=>False
 |none=>False
theorem Jc(wr:Bl σ w D ρ F)(ho:o.op=.indexAddr t x ix)(hv:OpR σ w D ρ F v (a.eval x))(hvi:OpR σ w D ρ F vi (a.eval ix))(h:B7 (slI P t) σ v vi K):∃r,K r/\Au P o a w σ D ρ r:=by
 unfold B7 at h;obtain⟨fp,hr,hfD,hfF⟩:=hv;obtain⟨_,B,_⟩:=hvi;split at h
 case h_2=>exact h.elim
 rename_i e size bytes zero hsi;obtain⟨hu,i0,z,U,hz,J,_,_,_,_⟩:=CS hsi;simp only at hu U J
 have W:∀ad len cap k i,a.eval x=.slice (some ad) len cap->a.eval ix=.int k i->0<=i->i<len->(execOp a.eval o).run P w=.ok (.value (.pointer (some (ad.add (i.toNat*size))))) w:=by
  intro ad len cap k i he he2 Z Y;unfold execOp;rw[ho];simp[Instr.indexAt,run_underlying hu,he,he2,asIntOf,sizeOf,typeInfo,U,J,Z,Y]
 split at h
 .rename_i sz n f k i
  obtain⟨rfl,hpos,⟨Z,Y⟩,hK⟩:=h;obtain⟨b,o',cap,A,hcap,hc⟩:=Ki hr (by omega)
  refine⟨_,hK,Au.pure wr (W ⟨b,o',none⟩ n cap k i (by simpa [AA]using A) B.1 Z Y) ?_⟩
  rw[A3 rfl];have O:i.toNat<n:=by omega
  refine .inr ⟨b,o'+i.toNat*sz,1,λ_ _=>noF,rfl,Nat.le_refl _,by unfold maxLen;omega,λ_=>rfl,?_,λ_=>⟨λ_=>(hc _ 0 O (by omega)).1,λ_ _ _ _ _ h=>h,λ_ h=>h⟩,λh=>by cases h⟩
  intro j k0 hj hk;obtain rfl:j=0:=by omega
  obtain⟨_,y,hy,hry⟩:=hc i.toNat k0 O hk;exact⟨y,by simpa using hy,hry⟩
 .rename_i id p off len k i
  obtain⟨hns,hpos,⟨Z,Y⟩,hK⟩:=h;obtain⟨⟨hid,sz,n,f,cn,ha,hle,A⟩,_⟩:=hr;rcases A with⟨b,o',cap,rfl,A⟩|⟨h0,_⟩
  .have E:A2 σ id p=sz:=by unfold A2;rw[<-At.sub ha]
   rw[E]at hns;subst hns;refine⟨_,hK,Au.pure wr (W _ len (cap-off) k i A B.1 Z Y) ?_⟩;rw[A3 rfl];exact⟨⟨hid,true,sz,n,f,b,o',cap,ha,by omega,by omega,by simp[Nat.add_mul,Nat.add_assoc]⟩,λ_ h=>h⟩
  .omega
 .exact h.elim
def Og(x ix:V)(K:V->Prop):Prop:=
 match x,ix with
 |.c (.string s),.c (.int _ i)=>(0<=i/\i<s.size)/\K (.c (.int .u8 (s.data.toList.getD i.toNat 0).toNat))
 |_,_=>False
theorem Of(wr:Bl σ w D ρ F)(O:P.underlying t=some .string)(W:o.op=.index t x ix)(J:OpR σ w D ρ F v (a.eval x))(e:OpR σ w D ρ F vi (a.eval ix))(h:Og v vi K):∃r,K r/\Au P o a w σ D ρ r:=by
 unfold Og at h;obtain⟨fp,U,Z,Y⟩:=J;obtain⟨_,A,_⟩:=e;split at h<;>try (exact h.elim)
 rename_i s k i;obtain⟨⟨h1,h2⟩,hK⟩:=h;refine⟨_,hK,Au.pure wr ?_ ⟨rfl,rfl,λ_ h=>h⟩⟩
 have E:i.toNat<s.size:=by omega
 have B:=E
 have:s[i.toNat]? =some (s.data.toList.getD i.toNat 0):=by
  rw[getElem?_pos s i.toNat E];rw[gDE,gEE (by simpa using B)]
  rfl
 unfold execOp;rw[W];simp[Instr.index,run_underlying O,U.1,A.1,asIntOf,h1,this]
def Acn(x:V)(K:V->Prop):Prop:=
 match x with
 |.nd false false sz n f=>K (.nd false false sz n f)
 |.rp id p i k=>K (.rp id p i k)
 |.many .bx n f=>AM (.many .bx n f)=false/\K (.many .bx n f)
 |_=>False
theorem Vz(wr:Bl σ w D ρ F)(ho:o.op=.nilCheck x)(Y:OpR σ w D ρ F v (a.eval x))(h:Acn v K):∃r,K r/\Au P o a w σ D ρ r:=by
 unfold Acn at h;obtain⟨fp,e,hfD,Z⟩:=Y
 have A:∀ad,a.eval x=.pointer (some ad)->(execOp a.eval o).run P w=.ok (.value (a.eval x)) w:=by
  intro ad B;unfold execOp;simp_all
 split at h
 .obtain⟨_,b,E,B,hc⟩:=Nc e
  exact⟨_,h,Au.pure wr (A _ B) (A6 (AB _ _ _ rfl e)▸e)⟩
 .obtain⟨⟨U,s',sz,n,f,b,E,cap,ha,W,O,B⟩,hf⟩:=e
  exact⟨_,h,Au.pure wr (A _ B) ⟨⟨U,s',sz,n,f,b,E,cap,ha,W,O,B⟩,λ_ h=>h⟩⟩
 .obtain⟨J,hK⟩:=h
  obtain⟨b,E,B,_⟩:=Ib e;exact⟨_,hK,Au.pure wr (A _ B) (A6 (AB _ _ _ J e)▸e)⟩
 grind
def andI(k:IntKind)(a b:Int):Int:=k.wrap (BitVec.ofInt k.bits a&&&BitVec.ofInt k.bits b).toNat
def shlI(k:IntKind)(a b:Int):Int:=k.wrap (a*2 ^ min b.toNat k.bits)
def shrI(k:IntKind)(a b:Int):Int:=a.fdiv (2 ^ min b.toNat k.bits)
def vsh(op:BinOp)(k:IntKind)(a b:Int):Option (Prop×Value):=match op with
 |.shl=>some (0<=b,.int k (shlI k a b))
 |.shr=>some (0<=b,.int k (shrI k a b))
 |_=>none
def WA{w:World}{k k':IntKind}{a b:Int}(h:vsh op k a b=some (c,z))(A:c):(binOp op t (.int k a) (.int k' b)).run P w=.ok z w/\z.oneCell'=true/\(op=.shl\/op=.shr):=by
 unfold vsh at h;split at h<;>simp only[Option.some.injEq,reduceCtorEq]at h<;>obtain⟨rfl,rfl⟩:=h<;>refine⟨?_,rfl,by simp⟩
 .have e:¬b<0:=by omega
  simp[binOp,Op.shift,e,shlI]
 .have e:¬b<0:=by omega
  simp[binOp,Op.shift,e,shrI]
def AbK(op:BinOp)(x y:Value):Option (Prop×Value):=
 match x,y with
 |.int k a,.int k' b=>match vsh op k a b with
  |some r=>some r
  |none=>if k=k' then match op with
  |.and=>some (True,.int k (andI k a b))
  |.add=>some (True,.int k (k.wrap (a+b)))
  |.sub=>some (True,.int k (k.wrap (a-b)))
  |.mul=>some (True,.int k (k.wrap (a*b)))
  |.quo=>some (b≠0,.int k (k.wrap (a.tdiv b)))
  |.rem=>some (b≠0,.int k (a.tmod b))
  |.eql=>some (True,.bool (decide (a=b)))
  |.neq=>some (True,.bool (!decide (a=b)))
  |.lss=>some (True,.bool (decide (a<b)))
  |.leq=>some (True,.bool (decide (a<=b)))
  |.gtr=>some (True,.bool (decide (b<a)))
  |.geq=>some (True,.bool (decide (b<=a)))
  |_=>none
  else none
 |.string a,.string b=>match op with
  |.add=>some ((a.size+b.size:Nat)<=9223372036854775807,.string (a++b))
  |.eql=>some (True,.bool (decide (a.data.toList=b.data.toList)))
  |.neq=>some (True,.bool (!decide (a.data.toList=b.data.toList)))
  |.lss=>some (True,.bool (Op.bytesLess a.data.toList b.data.toList))
  |_=>none
 |_,_=>none
def toList_eq(s:ByteArray):s.toList=s.data.toList:=by
 exact ByteArray.toList_eq s
theorem U1{x y:Value}(h:AbK op x y=some (c,z))(e:c):(binOp op t x y).run P w=.ok z w/\z.oneCell'=true:=by
 unfold AbK at h;split at h
 .rename_i k a k' b
  split at h
  .rename_i r A
   cases h;obtain⟨O,J,_⟩:=WA (P:=P) (w:=w) (k':=k') (t:=t) A e;exact⟨O,J⟩
  split at h
  .rename_i E;subst E
   split at h<;>simp only[Option.some.injEq,Prod.mk.injEq,reduceCtorEq]at h<;>obtain⟨rfl,rfl⟩:=h<;>refine⟨?_,rfl⟩
   all_goals (first|(simp[binOp,Op.intBits,andI];done)|(simp[binOp,Op.intArith];done)|(simp[binOp,Op.intCmp];done)|(simp[binOp,Op.intDiv,e];done)|skip)
   .simp[binOp,Op.intCmp];rfl
   .simp[binOp,Op.intCmp,bne];rfl
  .cases h
 .rename_i a b
  split at h<;>simp only[Option.some.injEq,Prod.mk.injEq,reduceCtorEq]at h<;>obtain⟨rfl,rfl⟩:=h<;>refine⟨?_,rfl⟩
  .have B:¬ (IntKind.i64.max<((a.size:Int)+(b.size:Int))):=by
    have:IntKind.i64.max=9223372036854775807:=by decide
    rw[this];omega
   simp[binOp,Op.stringOp,B];omega
  .simp[binOp,Op.stringOp,toList_eq];rw[Bool.eq_iff_iff];simp
  .simp[binOp,Op.stringOp,toList_eq];rw[Bool.eq_iff_iff];simp
  .simp[binOp,Op.stringOp,toList_eq]
 .cases h
def Ie(P:Program)(op:BinOp)(t:TypeId)(x y:Operand)(E B:V)(z:V):Prop:=
 ∀(w:World) (D:Nat->Prop) (R:V->Value->Prop) (cx e:Value),Rel D w R E cx noF->Rel D w R B e noF->
  ∃A,(do eqGuard op t x y cx e;binOp op t cx e:Sem Value).run P w=.ok A w/\Rel D w R z A noF
def VF(P:Program)(op:BinOp)(t:TypeId)(x y:Operand)(A e:V)(K:V->Prop):Prop:=
 match A,e with
 |.c a,.c b=>match AbK op a b with
  |some (c,z)=>c/\K (.c z)
  |none=>∃z,Ie P op t x y A e z/\AM A=false/\AM e=false/\K z
 |_,_=>∃z,Ie P op t x y A e z/\AM A=false/\AM e=false/\K z
theorem K8{a b:Value}(h:AbK op a b≠none):(eqGuard op t x y a b).run P w=.ok () w:=by
 unfold AbK at h;split at h
 .simp[eqGuard]
 .simp[eqGuard]
 grind
theorem VE(wr:Bl σ w D ρ F){yt:TypeId}{J E:V}(Z:o.op=.binOp op t x y yt)(B:OpR σ w D ρ F J (a.eval x))(A:OpR σ w D ρ F E (a.eval y))(h:VF P op t x y J E K):∃r,K r/\Au P o a w σ D ρ r:=by
 obtain⟨fx,B,_⟩:=B;obtain⟨fy,A,_⟩:=A;have gen:(∃z,Ie P op t x y J E z/\AM J=false/\AM E=false/\K z)->∃r,K r/\Au P o a w σ D ρ r:=by
  rintro ⟨z,O,Y,h2,W⟩
  have e1:=A6 (AB _ _ _ Y B);have e2:=A6 (AB _ _ _ h2 A);subst e1;subst e2;obtain⟨cz,e,U⟩:=O w D _ _ _ B A;refine⟨z,W,Au.pure wr ?_ U⟩;unfold execOp;rw[Z];simp only[Sem.run_bind,e,Result.andThen];rfl
 unfold VF at h;split at h
 .rename_i ax ay
  split at h
  .rename_i c z O
   obtain⟨hc,W⟩:=h;obtain⟨e,Y⟩:=U1 (P:=P) (w:=w) (t:=t) O hc;refine⟨_,W,Au.pure wr ?_ ⟨rfl,Y,λ_ h=>h⟩⟩
   have e1:a.eval x=ax:=B.1;have e2:=A.1;unfold execOp;rw[Z];have:=K8 (P:=P) (w:=w) (op:=op) (t:=t) (x:=x) (y:=y) (a:=ax) (b:=ay) (by rw[O];simp)
   simp_all
  .exact gen h
 .exact gen h
def qUn(op:UnOp)(x:V)(K:V->Prop):Prop:=
 match op,x with
 |.not,.c (.bool b)=>K (.c (.bool (!b)))
 |.neg,.c (.int k n)=>K (.c (.int k (k.wrap (0-n))))
 |_,_=>False
theorem XB(wr:Bl σ w D ρ F){op:UnOp}(A:o.op=.unOp op t x)(B:OpR σ w D ρ F v (a.eval x))(h:qUn op v K):∃r,K r/\Au P o a w σ D ρ r:=by
 unfold qUn at h;obtain⟨fp,e,_⟩:=B;split at h
 .exact⟨_,h,Au.pure wr (by unfold execOp;rw[A];simp[Op.unary,e.1]) ⟨rfl,rfl,λ_ h=>h⟩⟩
 .exact⟨_,h,Au.pure wr (by unfold execOp;rw[A];simp[Op.unary,e.1,Op.intArith]) ⟨rfl,rfl,λ_ h=>h⟩⟩
 grind
inductive CvI where
 |int (k:IntKind)
 |string
 |bytes
 |other
def cvI(P:Program)(s d:TypeId):CvI:=
 match P.underlying s,P.underlying d with
 |some _,some (.int k)=>.int k
 |some .string,some .string=>.string
 |some (.slice e),some .string=>match P.underlying e with
  |some (.int .u8)=>.bytes
  |_=>.other
 |_,_=>.other
def Y8(f:Nat->V):Nat->Option (List Int)
 |0=>some []
 |n+1=>match Y8 f n,f n with
  |some l,.c (.int .u8 k)=>some (l++[k])
  |_,_=>none
theorem NF{f:Nat->V}:∀{n:Nat}{l:List Int},Y8 f n=some l->l.length=n/\∀i,i<n->f i=.c (.int .u8 (l.getD i 0))
 |0,l,h=>by cases h;grind
 |n+1,l,h=>by
  unfold Y8 at h;split at h
  .rename_i A k e B
   cases h;obtain⟨g1,g2⟩:=NF e
   grind
  grind
def bytV(σ:List V):V->Option (List Int)
 |.nd true _ 1 n f=>Y8 (λi=>f i 0) n
 |.rs id p off len=>match sub p (σ.getD id .dead)with
  |.nd true true 1 n f=>if off+len<=n then Y8 (λi=>f (off+i) 0) len else none
  |_=>none
 |_=>none
def Adn(P:Program)(s d:TypeId)(A:V)(z:V):Prop:=
 ∀(w:World) (D:Nat->Prop) (R:V->Value->Prop) (cx:Value),Rel D w R A cx noF->∃e,(convert s d cx).run P w=.ok e w/\Rel D w R z e noF
theorem L5(w:World)(A dst e:TypeId)(B:P.underlying A=some (.slice e))(E:P.underlying e=some (.int .u8))(hd:P.underlying dst=some .string)(ad:Option Addr)(c:Nat):
  (convert A dst (.slice ad 0 c)).run P w=.ok (.string (strOfNums [])) w:=by
 cases ad with
 |none=>rw[run_convert_bytes_nil w A e B E 0 c dst hd];rfl
 |some a=>
  have J:(loadCells a 0).run P w=.ok #[] w:=by
   rfl
  rw[run_convert_bytes_string w A dst e _ 0 c B E hd,run_bytesToString w _ 0 c [] (by rfl)]
  rfl
theorem YK(wr:Bl σ w D ρ F){e:TypeId}{v:V}{cv:Value}{fp:Nat->Prop}{l:List Int}(hs:P.underlying s=some (.slice e))(he:P.underlying e=some (.int .u8))(hd:P.underlying d=some .string)
  (hr:Rel D w (Ak σ ρ w) v cv fp) (B:bytV σ v=some l):(convert s d cv).run P w=.ok (.string (strOfNums l)) w:=by
 have node:∀{own:Bool}{n:Nat}{f:Nat->Nat->V}{b o cap:Nat}{off len:Nat},(∀i k,i<n->k<1->∃x,w.cell? ⟨b,o+i*1+k,none⟩=some x/\∃fp,Rel D w noR (f i k) x fp)->off+len<=n->Y8 (λi=>f (off+i) 0) len=some l->
   ∀E,(convert s d (.slice (some ⟨b,o+off*1,none⟩) len E)).run P w=.ok (.string (strOfNums l)) w:=by
  intro own n f b o cap off len Z W hu E;obtain⟨g1,g2⟩:=NF hu;refine run_convert_bytes_arg w s e hs he b (o+off*1) len E l g1 (λi hi=>?_) d hd
  obtain⟨x,J,fp,A⟩:=Z (off+i) 0 (by omega) (by omega)
  rw[g2 i hi]at A;rw[<-A.1];have:o+(off+i)*1+0=o+off*1+i:=by omega
  rw[this]at J;exact J
 unfold bytV at B;split at B
 .rename_i own n f
  rcases hr with⟨h0,_,hn,_⟩|⟨b,o,cap,F0,rfl,_,_,_,Z,_⟩
  .obtain⟨ad,rfl⟩:=Dc hn
   subst h0;cases B;exact L5 w s d e hs he hd ad 0
  .have:=node (own:=own) (cap:=cap) (off:=0) (len:=n) (λi k hi hk=>by obtain⟨x,J,A⟩:=Z i k hi hk;exact⟨x,J,_,A⟩) (by omega) (by simpa using B) cap
   simpa [AA]using this
 .rename_i id p off len
  split at B
  case h_2=>cases B
  rename_i n f O;split at B
  case isFalse=>cases B
  rename_i W;obtain⟨⟨hid,sz,n',f',cn,ha,hle',hcv⟩,_⟩:=hr;have U:=At.sub ha;rw[O]at U;cases U;obtain⟨fp1,hr1,_⟩:=C7 (w':=w) p _ _ _ _ _ (wr.rel id hid) (λb hb h'=>wr.dD id b h' hb) ha
  rcases hcv with⟨b,o,cap,rfl,rfl⟩|⟨h0,ad,rfl,_⟩
  .rcases hr1 with⟨_,_,hn,_⟩|⟨b2,o2,cap2,F2,Y,_,_,_,Z,_⟩
   .exact absurd hn BN
   .obtain⟨rfl,rfl,_⟩:=Av Y
    exact node (own:=true) (cap:=cap) (off:=off) (len:=len) (λi k hi hk=>by obtain⟨x,J,A⟩:=Z i k hi hk;exact⟨x,J,_,A⟩) W B (cap-off)
  .subst h0
   cases B;exact L5 w s d e hs he hd _ 0
 .cases B
def Ok(P:Program)(σ:List V)(s d:TypeId)(x:V)(K:V->Prop):Prop:=
 match cvI P s d,x with
 |.int k,.c (.int _ n)=>K (.c (.int k (k.wrap n)))
 |.string,.c (.string b)=>K (.c (.string b))
 |.bytes,x=>match bytV σ x with
  |some l=>K (.c (.string (strOfNums l)))
  |none=>False
 |_,_=>∃z,Adn P s d x z/\AM x=false/\K z
theorem PW(wr:Bl σ w D ρ F)(O:o.op=.convert s d x)(Z:OpR σ w D ρ F v (a.eval x))(h:Ok P σ s d v K):∃r,K r/\Au P o a w σ D ρ r:=by
 obtain⟨fp,J,_⟩:=Z;unfold Ok at h;split at h
 .rename_i k k' n A
  unfold cvI at A;split at A<;>try (cases A;done)
  case h_3=>split at A<;>cases A
  rename_i d' W B hd;cases A;exact⟨_,h,Au.pure wr (by unfold execOp;rw[O];simp[convert,run_underlying B,run_underlying hd,J.1,Conv.intToInt]) ⟨rfl,rfl,λ_ h=>h⟩⟩
 .rename_i b A
  unfold cvI at A;split at A<;>try (cases A;done)
  case h_3=>split at A<;>cases A
  rename_i B hd;exact⟨_,h,Au.pure wr (by unfold execOp;rw[O];simp[convert,run_underlying B,run_underlying hd,J.1]) ⟨rfl,rfl,λ_ h=>h⟩⟩
 .rename_i A
  split at h
  case h_2=>exact h.elim
  rename_i l hl;have hu:∃e,P.underlying s=some (.slice e)/\P.underlying e=some (.int .u8)/\P.underlying d=some .string:=by
   unfold cvI at A;split at A<;>try (cases A;done)
   rename_i e B hd;split at A
   .exact⟨e,B,by assumption,hd⟩
   .cases A
  obtain⟨e,B,he,hd⟩:=hu;refine⟨_,h,Au.pure wr ?_ ⟨rfl,rfl,λ_ h=>h⟩⟩
  unfold execOp;rw[O];have:(convert s d (a.eval x)).run P w=.ok (.string (strOfNums l)) w:=YK wr B he hd J hl;simp[this]
 .obtain⟨z,Y,h1,hK⟩:=h
  have e1:=A6 (AB _ _ _ h1 J);subst e1;obtain⟨cz,E,U⟩:=Y w D _ _ J;exact⟨z,hK,Au.pure wr (by unfold execOp;rw[O];simp[E]) U⟩
def Cv(x:V)(i:Nat)(K:V->Prop):Prop:=
 match x with
 |.many .tu n f=>i<n/\AM (f i)=false/\K (f i)
 |_=>False
theorem K3(wr:Bl σ w D ρ F){i:Nat}(O:o.op=.extract x i)(E:OpR σ w D ρ F v (a.eval x))(h:Cv v i K):∃r,K r/\Au P o a w σ D ρ r:=by
 unfold Cv at h;obtain⟨fp,A,_⟩:=E;split at h
 .obtain⟨hi,J,W⟩:=h
  obtain⟨cs,F',e,U,A,_,_⟩:=A;have e:a.eval x=.tuple cs:=e;have B:=A i hi;have Y:=A6 (AB _ _ _ J B);rw[Y]at B;refine⟨_,W,Au.pure wr ?_ B⟩;unfold execOp;rw[O];simp[Instr.extract,e,U,hi]
 grind
def qLen(x:V)(K:V->Prop):Prop:=
 match x with
 |.c (.string s)=>K (.c (.int .i64 s.size))
 |.c (.slice none 0 0)=>K (.c (.int .i64 0))
 |.nd true _ _ n _=>K (.c (.int .i64 n))
 |.rs _ _ _ len=>K (.c (.int .i64 len))
 |_=>False
inductive LenI where
 |string|slice|other
def NB(P:Program)(t:TypeId):LenI:=match P.underlying t with
 |some .string=>.string
 |some (.slice _)=>.slice
 |_=>.other
theorem Rel.sliceLen{R:V->Value->Prop}{own:Bool}{sz n:Nat}{f:Nat->Nat->V}(h:Rel D w R (.nd true own sz n f) cv fp):∃a cap,cv=.slice a n cap:=by
 rcases h with⟨rfl,_,e,_⟩|⟨b,o,cap,F,rfl,_⟩
 .obtain⟨a,rfl⟩:=Dc e
  simp
 .exact⟨_,_,rfl⟩
theorem VC(wr:Bl σ w D ρ F)(U:NB P t=.string/\(∃s,v=.c (.string s))\/NB P t=.slice/\¬ (∃s,v=.c (.string s)))(ho:o.op=.call {callee:=.builtin .len,args:=#[x],argTypes:=#[t]})(hv:OpR σ w D ρ F v (a.eval x))(h:qLen v K):∃r,K r/\Au P o a w σ D ρ r:=by
 unfold qLen at h;obtain⟨fp,W,_⟩:=hv
 have O:∀z,(Builtin.len_ #[t] o.type #[a.eval x]).run P w=.ok z w->(execOp a.eval o).run P w=.ok (.value z) w:=by
  intro z hz;unfold execOp;rw[ho];simp[resolve,invoke,builtin,hz]
 have Z:NB P t=.slice->∃e,P.underlying t=some (.slice e):=by
  intro h;unfold NB at h;split at h<;>first|exact⟨_,‹_›⟩|cases h
 have Y:NB P t=.string->P.underlying t=some .string:=by
  intro h;unfold NB at h;split at h<;>first|assumption|cases h
 have E:∀ad n cap,a.eval x=.slice ad n cap->NB P t=.slice->(execOp a.eval o).run P w=.ok (.value (.int .i64 n)) w:=by
  intro ad n cap he B;obtain⟨e,hu⟩:=Z B;exact O _ (by simp[Builtin.len_,run_underlying hu,he,goInt])
 split at h
 .rename_i s
  have B:NB P t=.string:=U.elim (λh=>h.1) λh=>absurd ⟨s,rfl⟩ h.2
  exact⟨_,h,Au.pure wr (O _ (by simp[Builtin.len_,run_underlying (Y B),W.1,goInt])) ⟨rfl,rfl,λ_ h=>h⟩⟩
 .have B:NB P t=.slice:=U.elim (λh=>by obtain⟨_,s,J⟩:=h;cases J) λh=>h.1
  exact⟨_,h,Au.pure wr (E _ _ _ W.1 B) ⟨rfl,rfl,λ_ h=>h⟩⟩
 .have B:NB P t=.slice:=U.elim (λh=>by obtain⟨_,s,J⟩:=h;cases J) λh=>h.1
  obtain⟨ad,cap,he⟩:=Rel.sliceLen W;exact⟨_,h,Au.pure wr (E _ _ _ he B) ⟨rfl,rfl,λ_ h=>h⟩⟩
 .have B:NB P t=.slice:=U.elim (λh=>by obtain⟨_,s,J⟩:=h;cases J) λh=>h.1
  obtain⟨⟨hid,sz,n,f,cn,ha,hle,A⟩,_⟩:=W;rcases A with⟨b,o',cap,rfl,A⟩|⟨h0,ad,A,_⟩
  .exact⟨_,h,Au.pure wr (E _ _ _ A B) ⟨rfl,rfl,λ_ h=>h⟩⟩
  .rename_i len
   subst h0;exact⟨_,h,Au.pure wr (E _ _ _ A B) ⟨rfl,rfl,λ_ h=>h⟩⟩
 .exact h.elim
end ops
end Go.Ve

