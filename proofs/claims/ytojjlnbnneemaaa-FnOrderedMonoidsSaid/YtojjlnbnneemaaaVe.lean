/- The quiet operations of the small machine: addresses, arithmetic, texts, parts. -/
import Derived.Test.YtojjlnbnneemaaaVb
import Derived.Laws.BytesArg
set_option linter.all false
namespace Go.Ve
variable{op:BinOp}{fp:Nat->Prop}{ix x y:Operand}{P:Program}{c:Prop}{d s t:TypeId}{v vi:V}{cv z:Value}
section ops
variable {P:Program}{o:Oper}{a:Act}{w:World}{σ:List V}{D:Nat->Prop}{ρ:Nat->Value}{F:Nat->Nat->Prop}{K:V->Prop}
def JV(e:Option (Nat×Nat))(σ:List V)(x:V)(K:V->Prop):Prop:=
 match e with
 |some (off,fs)=>match x with
  |.nd false false sz n f=>off+fs<=sz/\K (.nd false false fs n λi k=>f i (off+k))
  |.rp id p i k=>k+off<A6 σ id p/\K (.rp id p i (k+off))
  |.many .bx n f=>(off+fs<=n/\(List.range fs).all (λk=>!AS (f (off+k)))=true)/\K (.many .bx fs λk=>f (off+k))
  |_=>False
 |none=>False
theorem N3(wr:Bs σ w D ρ F){fi:Nat}(ho:o.op=.fieldAddr t x fi)(hv:OpR σ w D ρ F v (a.eval x))(h:JV (Vm P t fi) σ v K):∃r,K r/\Av P o a w σ D ρ r:=by
 unfold JV at h;obtain⟨fp,hr,hfD,hfF⟩:=hv;split at h
 case h_2=>exact h.elim
 rename_i off fs hfi;obtain⟨fss,f,i,hu,hf,L,hi,his,hpos⟩:=Xz hfi
 have B:∀ad,a.eval x=.pointer (some ad)->(execOp a.eval o).run P w=.ok (.value (.pointer (some (ad.add off)))) w:=by
  intro ad E;have hne:¬ (fs=0):=by omega
  unfold execOp;rw[ho];simp[Instr.fieldAt,run_underlying hu,hf,E,Instr.sureAddr,fieldPlace,sizeOf,typeInfo,hi,his,hne,L]
 split at h
 .rename_i sz n f
  obtain⟨e,O⟩:=h;obtain⟨rfl,b,J,E,W⟩:=MT hr;refine⟨_,O,Av.pure wr (B _ E) ?_⟩;rw[A9 rfl];refine .inr ⟨b,J+off,1,λ_ _=>noF,rfl,Nat.le_refl _,by unfold maxLen;omega,λ_=>rfl,?_,λ_=>⟨λ_=>(W 0 (by omega)).1,λ_ _ _ _ _ h=>h,λ_ h=>h⟩,λh=>by cases h⟩
  intro i k hi0 A;obtain rfl:i=0:=by omega
  obtain⟨_,y,hy,Z⟩:=W (off+k) (by omega)
  exact⟨y,by simpa [Nat.add_assoc]using hy,Z⟩
 .rename_i id p i' k'
  obtain⟨e,O⟩:=h;obtain⟨⟨hid,s',sz,n,f,b,J,cap,ha,hi',hk',E⟩,_⟩:=hr;have hns:A6 σ id p=sz:=by unfold A6;rw[<-At.sub ha]
  rw[hns]at e;refine⟨_,O,Av.pure wr (B _ E) ?_⟩;rw[A9 rfl];exact⟨⟨hid,s',sz,n,f,b,J,cap,ha,hi',e,by simp[Nat.add_assoc]⟩,λ_ h=>h⟩
 .rename_i n f
  obtain⟨⟨e,Y⟩,O⟩:=h;obtain⟨b,J,E,hD,W⟩:=Ij hr;refine⟨_,O,Av.pure wr (B _ E) ?_⟩;rw[A9 rfl]
  obtain⟨cs,U,M⟩:=BT (n:=fs) (p:=λk x=>w.cell? ⟨b,J+off+k,none⟩=some x/\Rel D w (Am σ ρ w) (f (off+k)) x noF) λk A=>by
   obtain⟨x,fq,h1,h2⟩:=W (off+k) (by omega)
   exact⟨x,by rw[Nat.add_assoc];exact h1,Bb (AF _ _ _ (by simpa using aET.1 Y k (List.mem_range.2 A)) h2)▸h2⟩
  refine⟨cs.toArray,λ_=>noF,⟨b,J+off,rfl,λ_=>hD (by omega),λk A=>?_⟩,by simpa using U,λk A=>?_,λ_ _ _ _ _ _ h=>h.elim,λb=>⟨λh=>h.elim,fun⟨_,_,h⟩=>h⟩⟩
  .have A:k<fs:=by simpa [U]using A
   have:cs[k]? =some (cs.toArray.getD k undef):=by simp[U,A]
   exact(M k _ this).1
  .have:cs[k]? =some (cs.toArray.getD k undef):=by simp[U,A]
   exact(M k _ this).2
 .exact h.elim
def B7(e:Option SlI)(σ:List V)(x ix:V)(K:V->Prop):Prop:=
 match e with
 |some ⟨_,size,_,_⟩=>match x,ix with
  |.nd true false sz n f,.c (.int _ i)=>sz=size/\0<sz/\(0<=i/\i<n)/\K (.nd false false sz 1 λ_ k=>f i.toNat k)
  |.rs id p off len,.c (.int _ i)=>A6 σ id p=size/\0<size/\(0<=i/\i<len)/\K (.rp id p (off+i.toNat) 0)
  |_,_=>False
 |none=>False
theorem Ji(wr:Bs σ w D ρ F)(ho:o.op=.indexAddr t x ix)(hv:OpR σ w D ρ F v (a.eval x))(Z:OpR σ w D ρ F vi (a.eval ix))(h:B7 (slI P t) σ v vi K):∃r,K r/\Av P o a w σ D ρ r:=by
 unfold B7 at h;obtain⟨fp,hr,hfD,hfF⟩:=hv;obtain⟨_,B,_⟩:=Z;split at h
 case h_2=>exact h.elim
 rename_i e size bytes zero hsi;obtain⟨hu,i0,z,M,hz,J,_,_,_,_⟩:=C8 hsi;simp only at hu M J
 have O:∀ad len cap k i,a.eval x=.slice (some ad) len cap->a.eval ix=.int k i->0<=i->i<len->(execOp a.eval o).run P w=.ok (.value (.pointer (some (ad.add (i.toNat*size))))) w:=by
  intro ad len cap k i he he2 W U;unfold execOp;rw[ho];simp[Instr.indexAt,run_underlying hu,he,he2,asIntOf,sizeOf,typeInfo,M,J,W,U]
 split at h
 .rename_i sz n f k i
  obtain⟨rfl,hpos,⟨W,U⟩,hK⟩:=h;obtain⟨b,Y,cap,A,hcap,hc⟩:=Kc hr (by omega)
  refine⟨_,hK,Av.pure wr (O ⟨b,Y,none⟩ n cap k i (by simpa [AD]using A) B.1 W U) ?_⟩
  rw[A9 rfl];have L:i.toNat<n:=by omega
  refine .inr ⟨b,Y+i.toNat*sz,1,λ_ _=>noF,rfl,Nat.le_refl _,by unfold maxLen;omega,λ_=>rfl,?_,λ_=>⟨λ_=>(hc _ 0 L (by omega)).1,λ_ _ _ _ _ h=>h,λ_ h=>h⟩,λh=>by cases h⟩
  intro j k0 hj hk;obtain rfl:j=0:=by omega
  obtain⟨_,y,hy,hry⟩:=hc i.toNat k0 L hk;exact⟨y,by simpa using hy,hry⟩
 .rename_i id p off len k i
  obtain⟨hns,hpos,⟨W,U⟩,hK⟩:=h;obtain⟨⟨hid,sz,n,f,cn,ha,hle,A⟩,_⟩:=hr;rcases A with⟨b,Y,cap,rfl,A⟩|⟨h0,_⟩
  .have E:A6 σ id p=sz:=by unfold A6;rw[<-At.sub ha]
   rw[E]at hns;subst hns;refine⟨_,hK,Av.pure wr (O _ len (cap-off) k i A B.1 W U) ?_⟩;rw[A9 rfl];exact⟨⟨hid,true,sz,n,f,b,Y,cap,ha,by omega,by omega,by simp[Nat.add_mul,Nat.add_assoc]⟩,λ_ h=>h⟩
  .omega
 .exact h.elim
def Qz(x ix:V)(K:V->Prop):Prop:=
 match x,ix with
 |.c (.string s),.c (.int _ i)=>(0<=i/\i<s.size)/\K (.c (.int .u8 (s.data.toList.getD i.toNat 0).toNat))
 |_,_=>False
theorem N2(wr:Bs σ w D ρ F)(L:P.underlying t=some .string)(ho:o.op=.index t x ix)(J:OpR σ w D ρ F v (a.eval x))(e:OpR σ w D ρ F vi (a.eval ix))(h:Qz v vi K):∃r,K r/\Av P o a w σ D ρ r:=by
 unfold Qz at h;obtain⟨fp,M,U,O⟩:=J;obtain⟨_,A,_⟩:=e;split at h<;>try (exact h.elim)
 rename_i s k i;obtain⟨⟨W,Y⟩,hK⟩:=h;refine⟨_,hK,Av.pure wr ?_ ⟨rfl,rfl,λ_ h=>h⟩⟩
 have E:i.toNat<s.size:=by omega
 have B:=E
 have:s[i.toNat]? =some (s.data.toList.getD i.toNat 0):=by
  rw[getElem?_pos s i.toNat E];rw[gDE,gEE (by simpa using B)]
  rfl
 unfold execOp;rw[ho];simp[Instr.index,run_underlying L,M.1,A.1,asIntOf,W,this]
def Abk(x:V)(K:V->Prop):Prop:=
 match x with
 |.nd false false sz n f=>K (.nd false false sz n f)
 |.rp id p i k=>K (.rp id p i k)
 |.many .bx n f=>AS (.many .bx n f)=false/\K (.many .bx n f)
 |_=>False
theorem US(wr:Bs σ w D ρ F)(ho:o.op=.nilCheck x)(U:OpR σ w D ρ F v (a.eval x))(h:Abk v K):∃r,K r/\Av P o a w σ D ρ r:=by
 unfold Abk at h;obtain⟨fp,e,Y,W⟩:=U
 have A:∀ad,a.eval x=.pointer (some ad)->(execOp a.eval o).run P w=.ok (.value (a.eval x)) w:=by
  intro ad B;unfold execOp;simp_all
 split at h
 .obtain⟨_,b,E,B,hc⟩:=MT e
  exact⟨_,h,Av.pure wr (A _ B) (Bb (AF _ _ _ rfl e)▸e)⟩
 .obtain⟨⟨M,s',sz,n,f,b,E,cap,ha,O,L,B⟩,hf⟩:=e
  exact⟨_,h,Av.pure wr (A _ B) ⟨⟨M,s',sz,n,f,b,E,cap,ha,O,L,B⟩,λ_ h=>h⟩⟩
 .obtain⟨J,Z⟩:=h
  obtain⟨b,E,B,_⟩:=Ij e;exact⟨_,Z,Av.pure wr (A _ B) (Bb (AF _ _ _ J e)▸e)⟩
 grind
def AaB(k:IntKind)(a b:Int):Int:=k.wrap (BitVec.ofInt k.bits a&&&BitVec.ofInt k.bits b).toNat
def AcH(k:IntKind)(a b:Int):Int:=k.wrap (BitVec.ofInt k.bits a&&& ~~~BitVec.ofInt k.bits b).toNat
def shlI(k:IntKind)(a b:Int):Int:=k.wrap (a*2 ^ min b.toNat k.bits)
def Aa8(k:IntKind)(a b:Int):Int:=a.fdiv (2 ^ min b.toNat k.bits)
def vsh(op:BinOp)(k:IntKind)(a b:Int):Option (Prop×Value):=match op with
 |.shl=>some (0<=b,.int k (shlI k a b))
 |.shr=>some (0<=b,.int k (Aa8 k a b))
 |_=>none
def VO{w:World}{k k':IntKind}{a b:Int}(h:vsh op k a b=some (c,z))(e:c):(binOp op t (.int k a) (.int k' b)).run P w=.ok z w/\z.oneCell'=true/\(op=.shl\/op=.shr):=by
 unfold vsh at h;split at h<;>simp only[Option.some.injEq,reduceCtorEq]at h<;>obtain⟨rfl,rfl⟩:=h<;>refine⟨?_,rfl,by simp⟩
 .have hn:¬b<0:=by omega
  simp[binOp,Op.shift,hn,shlI]
 .have hn:¬b<0:=by omega
  simp[binOp,Op.shift,hn,Aa8]
def AaH(op:BinOp)(x y:Value):Option (Prop×Value):=
 match x,y with
 |.int k a,.int k' b=>match vsh op k a b with
  |some r=>some r
  |none=>if k=k' then match op with
  |.and=>some (True,.int k (AaB k a b))
  |.andNot=>some (True,.int k (AcH k a b))
  |.add=>some (True,.int k (k.wrap (a+b)))
  |.sub=>some (True,.int k (k.wrap (a-b)))
  |.mul=>some (True,.int k (k.wrap (a*b)))
  |.quo=>some (b≠0,.int k (k.wrap (a.tdiv b)))
  |.rem=>some (b≠0,.int k (a.tmod b))
  |.eql=>some (True,.bool (decide (a=b)))
  |.neq=>some (True,.bool (!decide (a=b)))
  |.lss=>some (True,.bool (decide (a<b)))
  |.leq=>some (True,.bool (decide (a<=b)))
  |.gtr=>some (True,.bool (decide (b<a)))
  |.geq=>some (True,.bool (decide (b<=a)))
  |_=>none
  else none
 |.string a,.string b=>match op with
  |.add=>some ((a.size+b.size:Nat)<=9223372036854775807,.string (a++b))
  |.eql=>some (True,.bool (decide (a.data.toList=b.data.toList)))
  |.neq=>some (True,.bool (!decide (a.data.toList=b.data.toList)))
  |.lss=>some (True,.bool (Op.bytesLess a.data.toList b.data.toList))
  |_=>none
 |_,_=>none
def toList_eq(s:ByteArray):s.toList=s.data.toList:=by
 exact ByteArray.toList_eq s
theorem Up{x y:Value}(h:AaH op x y=some (c,z))(e:c):(binOp op t x y).run P w=.ok z w/\z.oneCell'=true:=by
 unfold AaH at h;split at h
 .rename_i k a k' b
  split at h
  .rename_i r A
   cases h;obtain⟨J,E,_⟩:=VO (P:=P) (w:=w) (k':=k') (t:=t) A e;exact⟨J,E⟩
  split at h
  .rename_i B;subst B
   split at h<;>simp only[Option.some.injEq,Prod.mk.injEq,reduceCtorEq]at h<;>obtain⟨rfl,rfl⟩:=h<;>refine⟨?_,rfl⟩
   all_goals (first|(simp[binOp,Op.intBits,AaB,AcH];done)|(simp[binOp,Op.intArith];done)|(simp[binOp,Op.intCmp];done)|(simp[binOp,Op.intDiv,e];done)|skip)
   .simp[binOp,Op.intCmp];rfl
   .simp[binOp,Op.intCmp,bne];rfl
  .cases h
 .rename_i a b
  split at h<;>simp only[Option.some.injEq,Prod.mk.injEq,reduceCtorEq]at h<;>obtain⟨rfl,rfl⟩:=h<;>refine⟨?_,rfl⟩
  .have hn:¬ (IntKind.i64.max<((a.size:Int)+(b.size:Int))):=by
    have:IntKind.i64.max=9223372036854775807:=by decide
    rw[this];omega
   simp[binOp,Op.stringOp,hn];omega
  .simp[binOp,Op.stringOp,toList_eq];rw[Bool.eq_iff_iff];simp
  .simp[binOp,Op.stringOp,toList_eq];rw[Bool.eq_iff_iff];simp
  .simp[binOp,Op.stringOp,toList_eq]
 .cases h
def Il(P:Program)(op:BinOp)(t:TypeId)(x y:Operand)(E B:V)(z:V):Prop:=
 ∀(w:World) (D:Nat->Prop) (R:V->Value->Prop) (cx e:Value),Rel D w R E cx noF->Rel D w R B e noF->
  ∃A,(do eqGuard op t x y cx e;binOp op t cx e:Sem Value).run P w=.ok A w/\Rel D w R z A noF
def UY(P:Program)(op:BinOp)(t:TypeId)(x y:Operand)(A e:V)(K:V->Prop):Prop:=
 match A,e with
 |.c a,.c b=>match AaH op a b with
  |some (c,z)=>c/\K (.c z)
  |none=>∃z,Il P op t x y A e z/\AS A=false/\AS e=false/\K z
 |_,_=>∃z,Il P op t x y A e z/\AS A=false/\AS e=false/\K z
theorem KW{a b:Value}(h:AaH op a b≠none):(eqGuard op t x y a b).run P w=.ok () w:=by
 unfold AaH at h;split at h
 .simp[eqGuard]
 .simp[eqGuard]
 grind
theorem UX(wr:Bs σ w D ρ F){yt:TypeId}{L J:V}(ho:o.op=.binOp op t x y yt)(B:OpR σ w D ρ F L (a.eval x))(A:OpR σ w D ρ F J (a.eval y))(h:UY P op t x y L J K):∃r,K r/\Av P o a w σ D ρ r:=by
 obtain⟨fx,B,_⟩:=B;obtain⟨fy,A,_⟩:=A;have E:(∃z,Il P op t x y L J z/\AS L=false/\AS J=false/\K z)->∃r,K r/\Av P o a w σ D ρ r:=by
  rintro ⟨z,M,W,h2,U⟩
  have Z:=Bb (AF _ _ _ W B);have Y:=Bb (AF _ _ _ h2 A);subst Z;subst Y;obtain⟨cz,e,O⟩:=M w D _ _ _ B A;refine⟨z,U,Av.pure wr ?_ O⟩;unfold execOp;rw[ho];simp only[Sem.run_bind,e,Result.andThen];rfl
 unfold UY at h;split at h
 .rename_i ax ay
  split at h
  .rename_i c z M
   obtain⟨hc,U⟩:=h;obtain⟨e,W⟩:=Up (P:=P) (w:=w) (t:=t) M hc;refine⟨_,U,Av.pure wr ?_ ⟨rfl,W,λ_ h=>h⟩⟩
   have Z:a.eval x=ax:=B.1;have Y:=A.1;unfold execOp;rw[ho];have:=KW (P:=P) (w:=w) (op:=op) (t:=t) (x:=x) (y:=y) (a:=ax) (b:=ay) (by rw[M];simp)
   simp_all
  .exact E h
 .exact E h
def qUn(op:UnOp)(x:V)(K:V->Prop):Prop:=
 match op,x with
 |.not,.c (.bool b)=>K (.c (.bool (!b)))
 |.neg,.c (.int k n)=>K (.c (.int k (k.wrap (0-n))))
 |_,_=>False
theorem WJ(wr:Bs σ w D ρ F){op:UnOp}(ho:o.op=.unOp op t x)(A:OpR σ w D ρ F v (a.eval x))(h:qUn op v K):∃r,K r/\Av P o a w σ D ρ r:=by
 unfold qUn at h;obtain⟨fp,e,_⟩:=A;split at h
 .exact⟨_,h,Av.pure wr (by unfold execOp;rw[ho];simp[Op.unary,e.1]) ⟨rfl,rfl,λ_ h=>h⟩⟩
 .exact⟨_,h,Av.pure wr (by unfold execOp;rw[ho];simp[Op.unary,e.1,Op.intArith]) ⟨rfl,rfl,λ_ h=>h⟩⟩
 grind
inductive CvI where
 |int (k:IntKind)
 |string
 |bytes
 |other
def cvI(P:Program)(s d:TypeId):CvI:=
 match P.underlying s,P.underlying d with
 |some _,some (.int k)=>.int k
 |some .string,some .string=>.string
 |some (.slice e),some .string=>match P.underlying e with
  |some (.int .u8)=>.bytes
  |_=>.other
 |_,_=>.other
def X4(f:Nat->V):Nat->Option (List Int)
 |0=>some []
 |n+1=>match X4 f n,f n with
  |some l,.c (.int .u8 k)=>some (l++[k])
  |_,_=>none
theorem Nq{f:Nat->V}:∀{n:Nat}{l:List Int},X4 f n=some l->l.length=n/\∀i,i<n->f i=.c (.int .u8 (l.getD i 0))
 |0,l,h=>by cases h;grind
 |n+1,l,h=>by
  unfold X4 at h;split at h
  .rename_i A k e B
   cases h;obtain⟨g1,g2⟩:=Nq e
   grind
  grind
def bytV(σ:List V):V->Option (List Int)
 |.nd true _ 1 n f=>X4 (λi=>f i 0) n
 |.rs id p off len=>match sub p (σ.getD id .dead)with
  |.nd true true 1 n f=>if off+len<=n then X4 (λi=>f (off+i) 0) len else none
  |_=>none
 |_=>none
def Acp(P:Program)(s d:TypeId)(A:V)(z:V):Prop:=
 ∀(w:World) (D:Nat->Prop) (R:V->Value->Prop) (cx:Value),Rel D w R A cx noF->∃e,(convert s d cx).run P w=.ok e w/\Rel D w R z e noF
theorem LC(w:World)(A dst e:TypeId)(B:P.underlying A=some (.slice e))(E:P.underlying e=some (.int .u8))(hd:P.underlying dst=some .string)(ad:Option Addr)(c:Nat):
  (convert A dst (.slice ad 0 c)).run P w=.ok (.string (strOfNums [])) w:=by
 cases ad with
 |none=>rw[run_convert_bytes_nil w A e B E 0 c dst hd];rfl
 |some a=>
  have J:(loadCells a 0).run P w=.ok #[] w:=by
   rfl
  rw[run_convert_bytes_string w A dst e _ 0 c B E hd,run_bytesToString w _ 0 c [] (by rfl)]
  rfl
theorem XK(wr:Bs σ w D ρ F){e:TypeId}{v:V}{cv:Value}{fp:Nat->Prop}{l:List Int}(Z:P.underlying s=some (.slice e))(he:P.underlying e=some (.int .u8))(hd:P.underlying d=some .string)
  (hr:Rel D w (Am σ ρ w) v cv fp) (B:bytV σ v=some l):(convert s d cv).run P w=.ok (.string (strOfNums l)) w:=by
 have node:∀{own:Bool}{n:Nat}{f:Nat->Nat->V}{b o cap:Nat}{off len:Nat},(∀i k,i<n->k<1->∃x,w.cell? ⟨b,o+i*1+k,none⟩=some x/\∃fp,Rel D w noR (f i k) x fp)->off+len<=n->X4 (λi=>f (off+i) 0) len=some l->
   ∀E,(convert s d (.slice (some ⟨b,o+off*1,none⟩) len E)).run P w=.ok (.string (strOfNums l)) w:=by
  intro own n f b o cap off len Y O hu E;obtain⟨g1,g2⟩:=Nq hu;refine run_convert_bytes_arg w s e Z he b (o+off*1) len E l g1 (λi U=>?_) d hd
  obtain⟨x,J,fp,A⟩:=Y (off+i) 0 (by omega) (by omega)
  rw[g2 i U]at A;rw[<-A.1];have:o+(off+i)*1+0=o+off*1+i:=by omega
  rw[this]at J;exact J
 unfold bytV at B;split at B
 .rename_i own n f
  rcases hr with⟨h0,_,hn,_⟩|⟨b,o,cap,F0,rfl,_,_,_,Y,_⟩
  .obtain⟨ad,rfl⟩:=Dk hn
   subst h0;cases B;exact LC w s d e Z he hd ad 0
  .have:=node (own:=own) (cap:=cap) (off:=0) (len:=n) (λi k U hk=>by obtain⟨x,J,A⟩:=Y i k U hk;exact⟨x,J,_,A⟩) (by omega) (by simpa using B) cap
   simpa [AD]using this
 .rename_i id p off len
  split at B
  case h_2=>cases B
  rename_i n f L;split at B
  case isFalse=>cases B
  rename_i O;obtain⟨⟨hid,sz,n',f',cn,ha,hle',hcv⟩,_⟩:=hr;have M:=At.sub ha;rw[L]at M;cases M;obtain⟨fp1,hr1,_⟩:=Dg (w':=w) p _ _ _ _ _ (wr.rel id hid) (λb hb h'=>wr.dD id b h' hb) ha
  rcases hcv with⟨b,o,cap,rfl,rfl⟩|⟨h0,ad,rfl,_⟩
  .rcases hr1 with⟨_,_,hn,_⟩|⟨b2,o2,cap2,F2,W,_,_,_,Y,_⟩
   .exact absurd hn BQ
   .obtain⟨rfl,rfl,_⟩:=Az W
    exact node (own:=true) (cap:=cap) (off:=off) (len:=len) (λi k U hk=>by obtain⟨x,J,A⟩:=Y i k U hk;exact⟨x,J,_,A⟩) O B (cap-off)
  .subst h0
   cases B;exact LC w s d e Z he hd _ 0
 .cases B
def N6(P:Program)(σ:List V)(s d:TypeId)(x:V)(K:V->Prop):Prop:=
 match cvI P s d,x with
 |.int k,.c (.int _ n)=>K (.c (.int k (k.wrap n)))
 |.string,.c (.string b)=>K (.c (.string b))
 |.bytes,x=>match bytV σ x with
  |some l=>K (.c (.string (strOfNums l)))
  |none=>False
 |_,_=>∃z,Acp P s d x z/\AS x=false/\K z
theorem PA(wr:Bs σ w D ρ F)(ho:o.op=.convert s d x)(U:OpR σ w D ρ F v (a.eval x))(h:N6 P σ s d v K):∃r,K r/\Av P o a w σ D ρ r:=by
 obtain⟨fp,J,_⟩:=U;unfold N6 at h;split at h
 .rename_i k k' n A
  unfold cvI at A;split at A<;>try (cases A;done)
  case h_3=>split at A<;>cases A
  rename_i d' M B hd;cases A;exact⟨_,h,Av.pure wr (by unfold execOp;rw[ho];simp[convert,run_underlying B,run_underlying hd,J.1,Conv.intToInt]) ⟨rfl,rfl,λ_ h=>h⟩⟩
 .rename_i b A
  unfold cvI at A;split at A<;>try (cases A;done)
  case h_3=>split at A<;>cases A
  rename_i B hd;exact⟨_,h,Av.pure wr (by unfold execOp;rw[ho];simp[convert,run_underlying B,run_underlying hd,J.1]) ⟨rfl,rfl,λ_ h=>h⟩⟩
 .rename_i A
  split at h
  case h_2=>exact h.elim
  rename_i l Y;have W:∃e,P.underlying s=some (.slice e)/\P.underlying e=some (.int .u8)/\P.underlying d=some .string:=by
   unfold cvI at A;split at A<;>try (cases A;done)
   rename_i e B hd;split at A
   .exact⟨e,B,by assumption,hd⟩
   .cases A
  obtain⟨e,B,Z,hd⟩:=W;refine⟨_,h,Av.pure wr ?_ ⟨rfl,rfl,λ_ h=>h⟩⟩
  unfold execOp;rw[ho];have:(convert s d (a.eval x)).run P w=.ok (.string (strOfNums l)) w:=XK wr B Z hd J Y;simp[this]
 .obtain⟨z,O,h1,hK⟩:=h
  have e1:=Bb (AF _ _ _ h1 J);subst e1;obtain⟨cz,E,L⟩:=O w D _ _ J;exact⟨z,hK,Av.pure wr (by unfold execOp;rw[ho];simp[E]) L⟩
def CD(x:V)(i:Nat)(K:V->Prop):Prop:=
 match x with
 |.many .tu n f=>i<n/\AS (f i)=false/\K (f i)
 |_=>False
theorem KO(wr:Bs σ w D ρ F){i:Nat}(ho:o.op=.extract x i)(J:OpR σ w D ρ F v (a.eval x))(h:CD v i K):∃r,K r/\Av P o a w σ D ρ r:=by
 unfold CD at h;obtain⟨fp,A,_⟩:=J;split at h
 .obtain⟨E,L,M⟩:=h
  obtain⟨cs,F',e,hn,A,_,_⟩:=A;have e:a.eval x=.tuple cs:=e;have B:=A i E;have O:=Bb (AF _ _ _ L B);rw[O]at B;refine⟨_,M,Av.pure wr ?_ B⟩;unfold execOp;rw[ho];simp[Instr.extract,e,hn,E]
 grind
def qLen(x:V)(K:V->Prop):Prop:=
 match x with
 |.c (.string s)=>K (.c (.int .i64 s.size))
 |.c (.slice none 0 0)=>K (.c (.int .i64 0))
 |.nd true _ _ n _=>K (.c (.int .i64 n))
 |.rs _ _ _ len=>K (.c (.int .i64 len))
 |_=>False
inductive LenI where
 |string|slice|other
def Nm(P:Program)(t:TypeId):LenI:=match P.underlying t with
 |some .string=>.string
 |some (.slice _)=>.slice
 |_=>.other
theorem Rel.sliceLen{R:V->Value->Prop}{own:Bool}{sz n:Nat}{f:Nat->Nat->V}(h:Rel D w R (.nd true own sz n f) cv fp):∃a cap,cv=.slice a n cap:=by
 rcases h with⟨rfl,_,e,_⟩|⟨b,o,cap,F,rfl,_⟩
 .obtain⟨a,rfl⟩:=Dk e
  simp
 .exact⟨_,_,rfl⟩
theorem UV(wr:Bs σ w D ρ F)(M:Nm P t=.string/\(∃s,v=.c (.string s))\/Nm P t=.slice/\¬ (∃s,v=.c (.string s)))(ho:o.op=.call {callee:=.builtin .len,args:=#[x],argTypes:=#[t]})(hv:OpR σ w D ρ F v (a.eval x))(h:qLen v K):∃r,K r/\Av P o a w σ D ρ r:=by
 unfold qLen at h;obtain⟨fp,O,_⟩:=hv
 have L:∀z,(Builtin.len_ #[t] o.type #[a.eval x]).run P w=.ok z w->(execOp a.eval o).run P w=.ok (.value z) w:=by
  intro z Z;unfold execOp;rw[ho];simp[resolve,invoke,builtin,Z]
 have W:Nm P t=.slice->∃e,P.underlying t=some (.slice e):=by
  intro h;unfold Nm at h;split at h<;>first|exact⟨_,‹_›⟩|cases h
 have U:Nm P t=.string->P.underlying t=some .string:=by
  intro h;unfold Nm at h;split at h<;>first|assumption|cases h
 have E:∀ad n cap,a.eval x=.slice ad n cap->Nm P t=.slice->(execOp a.eval o).run P w=.ok (.value (.int .i64 n)) w:=by
  intro ad n cap Y B;obtain⟨e,hu⟩:=W B;exact L _ (by simp[Builtin.len_,run_underlying hu,Y,goInt])
 split at h
 .rename_i s
  have B:Nm P t=.string:=M.elim (λh=>h.1) λh=>absurd ⟨s,rfl⟩ h.2
  exact⟨_,h,Av.pure wr (L _ (by simp[Builtin.len_,run_underlying (U B),O.1,goInt])) ⟨rfl,rfl,λ_ h=>h⟩⟩
 .have B:Nm P t=.slice:=M.elim (λh=>by obtain⟨_,s,J⟩:=h;cases J) λh=>h.1
  exact⟨_,h,Av.pure wr (E _ _ _ O.1 B) ⟨rfl,rfl,λ_ h=>h⟩⟩
 .have B:Nm P t=.slice:=M.elim (λh=>by obtain⟨_,s,J⟩:=h;cases J) λh=>h.1
  obtain⟨ad,cap,Y⟩:=Rel.sliceLen O;exact⟨_,h,Av.pure wr (E _ _ _ Y B) ⟨rfl,rfl,λ_ h=>h⟩⟩
 .have B:Nm P t=.slice:=M.elim (λh=>by obtain⟨_,s,J⟩:=h;cases J) λh=>h.1
  obtain⟨⟨hid,sz,n,f,cn,ha,hle,A⟩,_⟩:=O;rcases A with⟨b,o',cap,rfl,A⟩|⟨h0,ad,A,_⟩
  .exact⟨_,h,Av.pure wr (E _ _ _ A B) ⟨rfl,rfl,λ_ h=>h⟩⟩
  .rename_i len
   subst h0;exact⟨_,h,Av.pure wr (E _ _ _ A B) ⟨rfl,rfl,λ_ h=>h⟩⟩
 .exact h.elim
end ops
end Go.Ve

