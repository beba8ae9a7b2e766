/- The quiet operations of the small machine: addresses, arithmetic, texts, parts. -/
import Derived.Test.YtojjlnbnneemaaaVb
import Derived.Laws.BytesArg
set_option linter.all false
namespace Go.Ve
variable{op:BinOp}{fp:Nat->Prop}{ix x y:Operand}{P:Program}{c:Prop}{d s t:TypeId}{v vi:V}{cv z:Value}
section ops
variable {P:Program}{o:Oper}{a:Act}{w:World}{σ:List V}{D:Nat->Prop}{ρ:Nat->Value}{F:Nat->Nat->Prop}{K:V->Prop}
def Ju(u:Option (Nat×Nat))(σ:List V)(x:V)(K:V->Prop):Prop:=
 match u with
 |some (off,fs)=>match x with
  |.nd false false sz n f=>off+fs<=sz/\K (.nd false false fs n λi k=>f i (off+k))
  |.rp id p i k=>k+off<AW σ id p/\K (.rp id p i (k+off))
  |.many .bx n f=>(off+fs<=n/\(List.range fs).all (λk=>!AN (f (off+k)))=true)/\K (.many .bx fs λk=>f (off+k))
  |_=>False
 |none=>False
theorem Ny(wr:Bu σ w D ρ F){fi:Nat}(ho:o.op=.fieldAddr t x fi)(hv:OpR σ w D ρ F v (a.eval x))(h:Ju (US P t fi) σ v K):∃r,K r/\Av P o a w σ D ρ r:=by
 unfold Ju at h;obtain⟨fp,hr,hfD,hfF⟩:=hv;split at h
 case h_2=>exact h.elim
 rename_i off fs hfi;obtain⟨fss,f,i,hu,hf,O,hi,his,hpos⟩:=Xp hfi
 have B:∀ad,a.eval x=.pointer (some ad)->(execOp a.eval o).run P w=.ok (.value (.pointer (some (ad.add off)))) w:=by
  intro ad E;have hne:¬ (fs=0):=by omega
  unfold execOp;rw[ho];simp[Instr.fieldAt,run_underlying hu,hf,E,Instr.sureAddr,fieldPlace,sizeOf,typeInfo,hi,his,hne,O]
 split at h
 .rename_i sz n f
  obtain⟨u,W⟩:=h;obtain⟨rfl,b,J,E,Z⟩:=Mo hr;refine⟨_,W,Av.pure wr (B _ E) ?_⟩;rw[AZ rfl];refine .inr ⟨b,J+off,1,λ_ _=>noF,rfl,Nat.le_refl _,by unfold maxLen;omega,λ_=>rfl,?_,λ_=>⟨λ_=>(Z 0 (by omega)).1,λ_ _ _ _ _ h=>h,λ_ h=>h⟩,λh=>by cases h⟩
  intro i k hi0 A;obtain rfl:i=0:=by omega
  obtain⟨_,y,hy,hry⟩:=Z (off+k) (by omega)
  exact⟨y,by simpa [Nat.add_assoc]using hy,hry⟩
 .rename_i id p i' k'
  obtain⟨u,W⟩:=h;obtain⟨⟨hid,s',sz,n,f,b,J,cap,ha,hi',hk',E⟩,_⟩:=hr;have hns:AW σ id p=sz:=by unfold AW;rw[<-At.sub ha]
  rw[hns]at u;refine⟨_,W,Av.pure wr (B _ E) ?_⟩;rw[AZ rfl];exact⟨⟨hid,s',sz,n,f,b,J,cap,ha,hi',u,by simp[Nat.add_assoc]⟩,λ_ h=>h⟩
 .rename_i n f
  obtain⟨⟨u,hto⟩,W⟩:=h;obtain⟨b,J,E,hD,Z⟩:=HY hr;refine⟨_,W,Av.pure wr (B _ E) ?_⟩;rw[AZ rfl]
  obtain⟨cs,Y,U⟩:=BS (n:=fs) (p:=λk x=>w.cell? ⟨b,J+off+k,none⟩=some x/\Rel D w (Aq σ ρ w) (f (off+k)) x noF) λk A=>by
   obtain⟨x,fq,h1,h2⟩:=Z (off+k) (by omega)
   exact⟨x,by rw[Nat.add_assoc];exact h1,A7 (AF _ _ _ (by simpa using aET.1 hto k (List.mem_range.2 A)) h2)▸h2⟩
  refine⟨cs.toArray,λ_=>noF,⟨b,J+off,rfl,λ_=>hD (by omega),λk A=>?_⟩,by simpa using Y,λk A=>?_,λ_ _ _ _ _ _ h=>h.elim,λb=>⟨λh=>h.elim,fun⟨_,_,h⟩=>h⟩⟩
  .have A:k<fs:=by simpa [Y]using A
   have:cs[k]? =some (cs.toArray.getD k undef):=by simp[Y,A]
   exact(U k _ this).1
  .have:cs[k]? =some (cs.toArray.getD k undef):=by simp[Y,A]
   exact(U k _ this).2
 .exact h.elim
def B9(u:Option SlI)(σ:List V)(x ix:V)(K:V->Prop):Prop:=
 match u with
 |some ⟨_,size,_,_⟩=>match x,ix with
  |.nd true false sz n f,.c (.int _ i)=>sz=size/\0<sz/\(0<=i/\i<n)/\K (.nd false false sz 1 λ_ k=>f i.toNat k)
  |.rs id p off len,.c (.int _ i)=>AW σ id p=size/\0<size/\(0<=i/\i<len)/\K (.rp id p (off+i.toNat) 0)
  |_,_=>False
 |none=>False
theorem IQ(wr:Bu σ w D ρ F)(ho:o.op=.indexAddr t x ix)(hv:OpR σ w D ρ F v (a.eval x))(hvi:OpR σ w D ρ F vi (a.eval ix))(h:B9 (slI P t) σ v vi K):∃r,K r/\Av P o a w σ D ρ r:=by
 unfold B9 at h;obtain⟨fp,hr,hfD,hfF⟩:=hv;obtain⟨_,A,_⟩:=hvi;split at h
 case h_2=>exact h.elim
 rename_i e size bytes zero hsi;obtain⟨hu,i0,z,O,hz,E,_,_,_,_⟩:=Dn hsi;simp only at hu O E
 have U:∀ad len cap k i,a.eval x=.slice (some ad) len cap->a.eval ix=.int k i->0<=i->i<len->(execOp a.eval o).run P w=.ok (.value (.pointer (some (ad.add (i.toNat*size))))) w:=by
  intro ad len cap k i he he2 Y W;unfold execOp;rw[ho];simp[Instr.indexAt,run_underlying hu,he,he2,asIntOf,sizeOf,typeInfo,O,E,Y,W]
 split at h
 .rename_i sz n f k i
  obtain⟨rfl,hpos,⟨Y,W⟩,hK⟩:=h;obtain⟨b,Z,cap,u,hcap,hc⟩:=JH hr (by omega)
  refine⟨_,hK,Av.pure wr (U ⟨b,Z,none⟩ n cap k i (by simpa [AC]using u) A.1 Y W) ?_⟩
  rw[AZ rfl];have J:i.toNat<n:=by omega
  refine .inr ⟨b,Z+i.toNat*sz,1,λ_ _=>noF,rfl,Nat.le_refl _,by unfold maxLen;omega,λ_=>rfl,?_,λ_=>⟨λ_=>(hc _ 0 J (by omega)).1,λ_ _ _ _ _ h=>h,λ_ h=>h⟩,λh=>by cases h⟩
  intro j k0 hj hk;obtain rfl:j=0:=by omega
  obtain⟨_,y,hy,hry⟩:=hc i.toNat k0 J hk;exact⟨y,by simpa using hy,hry⟩
 .rename_i id p off len k i
  obtain⟨hns,hpos,⟨Y,W⟩,hK⟩:=h;obtain⟨⟨hid,sz,n,f,cn,ha,hle,u⟩,_⟩:=hr;rcases u with⟨b,Z,cap,rfl,u⟩|⟨h0,_⟩
  .have B:AW σ id p=sz:=by unfold AW;rw[<-At.sub ha]
   rw[B]at hns;subst hns;refine⟨_,hK,Av.pure wr (U _ len (cap-off) k i u A.1 Y W) ?_⟩;rw[AZ rfl];exact⟨⟨hid,true,sz,n,f,b,Z,cap,ha,by omega,by omega,by simp[Nat.add_mul,Nat.add_assoc]⟩,λ_ h=>h⟩
  .omega
 .exact h.elim
def ZN(_ _:V)(_:V->Prop):Prop:=False
def Nx(wr:Bu σ w D ρ F)(B:P.underlying t=some .string)(E:o.op=.index t x ix)(A:OpR σ w D ρ F v (a.eval x))(u:OpR σ w D ρ F vi (a.eval ix))(h:ZN v vi K):∃r,K r/\Av P o a w σ D ρ r:=False.elim h
def Abb(x:V)(K:V->Prop):Prop:=
 match x with
 |.nd false false sz n f=>K (.nd false false sz n f)
 |.rp id p i k=>K (.rp id p i k)
 |.many .bx n f=>AN (.many .bx n f)=false/\K (.many .bx n f)
 |_=>False
theorem Uo(wr:Bu σ w D ρ F)(ho:o.op=.nilCheck x)(Y:OpR σ w D ρ F v (a.eval x))(h:Abb v K):∃r,K r/\Av P o a w σ D ρ r:=by
 unfold Abb at h;obtain⟨fp,u,hfD,Z⟩:=Y
 have A:∀ad,a.eval x=.pointer (some ad)->(execOp a.eval o).run P w=.ok (.value (a.eval x)) w:=by
  intro ad B;unfold execOp;simp_all
 split at h
 .obtain⟨_,b,E,B,hc⟩:=Mo u
  exact⟨_,h,Av.pure wr (A _ B) (A7 (AF _ _ _ rfl u)▸u)⟩
 .obtain⟨⟨U,s',sz,n,f,b,E,cap,ha,W,O,B⟩,hf⟩:=u
  exact⟨_,h,Av.pure wr (A _ B) ⟨⟨U,s',sz,n,f,b,E,cap,ha,W,O,B⟩,λ_ h=>h⟩⟩
 .obtain⟨J,hK⟩:=h
  obtain⟨b,E,B,_⟩:=HY u;exact⟨_,hK,Av.pure wr (A _ B) (A7 (AF _ _ _ J u)▸u)⟩
 grind
def Aaw(k:IntKind)(a b:Int):Int:=k.wrap (BitVec.ofInt k.bits a&&&BitVec.ofInt k.bits b).toNat
def shlI(k:IntKind)(a b:Int):Int:=k.wrap (a*2 ^ min b.toNat k.bits)
def Aa0(k:IntKind)(a b:Int):Int:=a.fdiv (2 ^ min b.toNat k.bits)
def vsh(op:BinOp)(k:IntKind)(a b:Int):Option (Prop×Value):=match op with
 |.shl=>some (0<=b,.int k (shlI k a b))
 |.shr=>some (0<=b,.int k (Aa0 k a b))
 |_=>none
def Vn{w:World}{k k':IntKind}{a b:Int}(h:vsh op k a b=some (c,z))(A:c):(binOp op t (.int k a) (.int k' b)).run P w=.ok z w/\z.oneCell'=true/\(op=.shl\/op=.shr):=by
 unfold vsh at h;split at h<;>simp only[Option.some.injEq,reduceCtorEq]at h<;>obtain⟨rfl,rfl⟩:=h<;>refine⟨?_,rfl,by simp⟩
 .have u:¬b<0:=by omega
  simp[binOp,Op.shift,u,shlI]
 .have u:¬b<0:=by omega
  simp[binOp,Op.shift,u,Aa0]
def AaB(op:BinOp)(x y:Value):Option (Prop×Value):=
 match x,y with
 |.int k a,.int k' b=>match vsh op k a b with
  |some r=>some r
  |none=>if k=k' then match op with
  |.and=>some (True,.int k (Aaw k a b))
  |.add=>some (True,.int k (k.wrap (a+b)))
  |.sub=>some (True,.int k (k.wrap (a-b)))
  |.mul=>some (True,.int k (k.wrap (a*b)))
  |.quo=>some (b≠0,.int k (k.wrap (a.tdiv b)))
  |.rem=>some (b≠0,.int k (a.tmod b))
  |.eql=>some (True,.bool (decide (a=b)))
  |.neq=>some (True,.bool (!decide (a=b)))
  |.lss=>some (True,.bool (decide (a<b)))
  |.leq=>some (True,.bool (decide (a<=b)))
  |.gtr=>some (True,.bool (decide (b<a)))
  |.geq=>some (True,.bool (decide (b<=a)))
  |_=>none
  else none
 |.string a,.string b=>match op with
  |.add=>some ((a.size+b.size:Nat)<=9223372036854775807,.string (a++b))
  |.eql=>some (True,.bool (decide (a.data.toList=b.data.toList)))
  |.neq=>some (True,.bool (!decide (a.data.toList=b.data.toList)))
  |.lss=>some (True,.bool (Op.bytesLess a.data.toList b.data.toList))
  |_=>none
 |_,_=>none
def toList_eq(s:ByteArray):s.toList=s.data.toList:=by
 exact ByteArray.toList_eq s
theorem QY{x y:Value}(h:AaB op x y=some (c,z))(u:c):(binOp op t x y).run P w=.ok z w/\z.oneCell'=true:=by
 unfold AaB at h;split at h
 .rename_i k a k' b
  split at h
  .rename_i r A
   cases h;obtain⟨O,J,_⟩:=Vn (P:=P) (w:=w) (k':=k') (t:=t) A u;exact⟨O,J⟩
  split at h
  .rename_i E;subst E
   split at h<;>simp only[Option.some.injEq,Prod.mk.injEq,reduceCtorEq]at h<;>obtain⟨rfl,rfl⟩:=h<;>refine⟨?_,rfl⟩
   all_goals (first|(simp[binOp,Op.intBits,Aaw];done)|(simp[binOp,Op.intArith];done)|(simp[binOp,Op.intCmp];done)|(simp[binOp,Op.intDiv,u];done)|skip)
   .simp[binOp,Op.intCmp];rfl
   .simp[binOp,Op.intCmp,bne];rfl
  .cases h
 .rename_i a b
  split at h<;>simp only[Option.some.injEq,Prod.mk.injEq,reduceCtorEq]at h<;>obtain⟨rfl,rfl⟩:=h<;>refine⟨?_,rfl⟩
  .have B:¬ (IntKind.i64.max<((a.size:Int)+(b.size:Int))):=by
    have:IntKind.i64.max=9223372036854775807:=by decide
    rw[this];omega
   simp[binOp,Op.stringOp,B];omega
  .simp[binOp,Op.stringOp,toList_eq];rw[Bool.eq_iff_iff];simp
  .simp[binOp,Op.stringOp,toList_eq];rw[Bool.eq_iff_iff];simp
  .simp[binOp,Op.stringOp,toList_eq]
 .cases h
def H0(P:Program)(op:BinOp)(t:TypeId)(x y:Operand)(E B:V)(z:V):Prop:=
 ∀(w:World) (D:Nat->Prop) (R:V->Value->Prop) (cx u:Value),Rel D w R E cx noF->Rel D w R B u noF->
  ∃A,(do eqGuard op t x y cx u;binOp op t cx u:Sem Value).run P w=.ok A w/\Rel D w R z A noF
def Uv(P:Program)(op:BinOp)(t:TypeId)(x y:Operand)(A u:V)(K:V->Prop):Prop:=
 match A,u with
 |.c a,.c b=>match AaB op a b with
  |some (c,z)=>c/\K (.c z)
  |none=>∃z,H0 P op t x y A u z/\AN A=false/\AN u=false/\K z
 |_,_=>∃z,H0 P op t x y A u z/\AN A=false/\AN u=false/\K z
theorem Kq{a b:Value}(h:AaB op a b≠none):(eqGuard op t x y a b).run P w=.ok () w:=by
 unfold AaB at h;split at h
 .simp[eqGuard]
 .simp[eqGuard]
 grind
theorem Uu(wr:Bu σ w D ρ F){yt:TypeId}{J E:V}(Z:o.op=.binOp op t x y yt)(B:OpR σ w D ρ F J (a.eval x))(A:OpR σ w D ρ F E (a.eval y))(h:Uv P op t x y J E K):∃r,K r/\Av P o a w σ D ρ r:=by
 obtain⟨fx,B,_⟩:=B;obtain⟨fy,A,_⟩:=A;have gen:(∃z,H0 P op t x y J E z/\AN J=false/\AN E=false/\K z)->∃r,K r/\Av P o a w σ D ρ r:=by
  rintro ⟨z,O,Y,h2,W⟩
  have e1:=A7 (AF _ _ _ Y B);have e2:=A7 (AF _ _ _ h2 A);subst e1;subst e2;obtain⟨cz,u,U⟩:=O w D _ _ _ B A;refine⟨z,W,Av.pure wr ?_ U⟩;unfold execOp;rw[Z];simp only[Sem.run_bind,u,Result.andThen];rfl
 unfold Uv at h;split at h
 .rename_i ax ay
  split at h
  .rename_i c z O
   obtain⟨hc,W⟩:=h;obtain⟨u,Y⟩:=QY (P:=P) (w:=w) (t:=t) O hc;refine⟨_,W,Av.pure wr ?_ ⟨rfl,Y,λ_ h=>h⟩⟩
   have e1:a.eval x=ax:=B.1;have e2:=A.1;unfold execOp;rw[Z];have:=Kq (P:=P) (w:=w) (op:=op) (t:=t) (x:=x) (y:=y) (a:=ax) (b:=ay) (by rw[O];simp)
   simp_all
  .exact gen h
 .exact gen h
def qUn(op:UnOp)(x:V)(K:V->Prop):Prop:=
 match op,x with
 |.not,.c (.bool b)=>K (.c (.bool (!b)))
 |.neg,.c (.int k n)=>K (.c (.int k (k.wrap (0-n))))
 |_,_=>False
theorem Wn(wr:Bu σ w D ρ F){op:UnOp}(A:o.op=.unOp op t x)(B:OpR σ w D ρ F v (a.eval x))(h:qUn op v K):∃r,K r/\Av P o a w σ D ρ r:=by
 unfold qUn at h;obtain⟨fp,u,_⟩:=B;split at h
 .exact⟨_,h,Av.pure wr (by unfold execOp;rw[A];simp[Op.unary,u.1]) ⟨rfl,rfl,λ_ h=>h⟩⟩
 .exact⟨_,h,Av.pure wr (by unfold execOp;rw[A];simp[Op.unary,u.1,Op.intArith]) ⟨rfl,rfl,λ_ h=>h⟩⟩
 grind
inductive CvI where
 |int (k:IntKind)
 |string
 |bytes
 |other
def cvI(P:Program)(s d:TypeId):CvI:=
 match P.underlying s,P.underlying d with
 |some _,some (.int k)=>.int k
 |some .string,some .string=>.string
 |some (.slice e),some .string=>match P.underlying e with
  |some (.int .u8)=>.bytes
  |_=>.other
 |_,_=>.other
def X0(f:Nat->V):Nat->Option (List Int)
 |0=>some []
 |n+1=>match X0 f n,f n with
  |some l,.c (.int .u8 k)=>some (l++[k])
  |_,_=>none
theorem MX{f:Nat->V}:∀{n:Nat}{l:List Int},X0 f n=some l->l.length=n/\∀i,i<n->f i=.c (.int .u8 (l.getD i 0))
 |0,l,h=>by cases h;grind
 |n+1,l,h=>by
  unfold X0 at h;split at h
  .rename_i A k u B
   cases h;obtain⟨g1,g2⟩:=MX u
   grind
  grind
def bytV(σ:List V):V->Option (List Int)
 |.nd true _ 1 n f=>X0 (λi=>f i 0) n
 |.rs id p off len=>match sub p (σ.getD id .dead)with
  |.nd true true 1 n f=>if off+len<=n then X0 (λi=>f (off+i) 0) len else none
  |_=>none
 |_=>none
def Acj(P:Program)(s d:TypeId)(A:V)(z:V):Prop:=
 ∀(w:World) (D:Nat->Prop) (R:V->Value->Prop) (cx:Value),Rel D w R A cx noF->∃u,(convert s d cx).run P w=.ok u w/\Rel D w R z u noF
theorem Lb(w:World)(u dst e:TypeId)(A:P.underlying u=some (.slice e))(B:P.underlying e=some (.int .u8))(hd:P.underlying dst=some .string)(ad:Option Addr)(c:Nat):
  (convert u dst (.slice ad 0 c)).run P w=.ok (.string (strOfNums [])) w:=by
 cases ad with
 |none=>rw[run_convert_bytes_nil w u e A B 0 c dst hd];rfl
 |some a=>
  have E:(loadCells a 0).run P w=.ok #[] w:=by
   rfl
  rw[run_convert_bytes_string w u dst e _ 0 c A B hd,run_bytesToString w _ 0 c [] (by rfl)]
  rfl
theorem XC(wr:Bu σ w D ρ F){e:TypeId}{v:V}{cv:Value}{fp:Nat->Prop}{l:List Int}(hs:P.underlying s=some (.slice e))(he:P.underlying e=some (.int .u8))(hd:P.underlying d=some .string)
  (hr:Rel D w (Aq σ ρ w) v cv fp) (A:bytV σ v=some l):(convert s d cv).run P w=.ok (.string (strOfNums l)) w:=by
 have node:∀{own:Bool}{n:Nat}{f:Nat->Nat->V}{b o cap:Nat}{off len:Nat},(∀i k,i<n->k<1->∃x,w.cell? ⟨b,o+i*1+k,none⟩=some x/\∃fp,Rel D w noR (f i k) x fp)->off+len<=n->X0 (λi=>f (off+i) 0) len=some l->
   ∀B,(convert s d (.slice (some ⟨b,o+off*1,none⟩) len B)).run P w=.ok (.string (strOfNums l)) w:=by
  intro own n f b o cap off len Z U hu B;obtain⟨g1,g2⟩:=MX hu;refine run_convert_bytes_arg w s e hs he b (o+off*1) len B l g1 (λi W=>?_) d hd
  obtain⟨x,E,fp,u⟩:=Z (off+i) 0 (by omega) (by omega)
  rw[g2 i W]at u;rw[<-u.1];have:o+(off+i)*1+0=o+off*1+i:=by omega
  rw[this]at E;exact E
 unfold bytV at A;split at A
 .rename_i own n f
  rcases hr with⟨h0,_,hn,_⟩|⟨b,o,cap,F0,rfl,_,_,_,Z,_⟩
  .obtain⟨ad,rfl⟩:=Dd hn
   subst h0;cases A;exact Lb w s d e hs he hd ad 0
  .have:=node (own:=own) (cap:=cap) (off:=0) (len:=n) (λi k W hk=>by obtain⟨x,E,u⟩:=Z i k W hk;exact⟨x,E,_,u⟩) (by omega) (by simpa using A) cap
   simpa [AC]using this
 .rename_i id p off len
  split at A
  case h_2=>cases A
  rename_i n f J;split at A
  case isFalse=>cases A
  rename_i U;obtain⟨⟨hid,sz,n',f',cn,ha,hle',hcv⟩,_⟩:=hr;have O:=At.sub ha;rw[J]at O;cases O;obtain⟨fp1,hr1,_⟩:=C9 (w':=w) p _ _ _ _ _ (wr.rel id hid) (λb hb h'=>wr.dD id b h' hb) ha
  rcases hcv with⟨b,o,cap,rfl,rfl⟩|⟨h0,ad,rfl,_⟩
  .rcases hr1 with⟨_,_,hn,_⟩|⟨b2,o2,cap2,F2,Y,_,_,_,Z,_⟩
   .exact absurd hn BQ
   .obtain⟨rfl,rfl,_⟩:=Aw Y
    exact node (own:=true) (cap:=cap) (off:=off) (len:=len) (λi k W hk=>by obtain⟨x,E,u⟩:=Z i k W hk;exact⟨x,E,_,u⟩) U A (cap-off)
  .subst h0
   cases A;exact Lb w s d e hs he hd _ 0
 .cases A
def O5(P:Program)(σ:List V)(s d:TypeId)(x:V)(K:V->Prop):Prop:=
 match cvI P s d,x with
 |.int k,.c (.int _ n)=>K (.c (.int k (k.wrap n)))
 |.string,.c (.string b)=>K (.c (.string b))
 |.bytes,x=>match bytV σ x with
  |some l=>K (.c (.string (strOfNums l)))
  |none=>False
 |_,_=>∃z,Acj P s d x z/\AN x=false/\K z
theorem O4(wr:Bu σ w D ρ F)(J:o.op=.convert s d x)(Y:OpR σ w D ρ F v (a.eval x))(h:O5 P σ s d v K):∃r,K r/\Av P o a w σ D ρ r:=by
 obtain⟨fp,E,_⟩:=Y;unfold O5 at h;split at h
 .rename_i k k' n u
  unfold cvI at u;split at u<;>try (cases u;done)
  case h_3=>split at u<;>cases u
  rename_i d' U A hd;cases u;exact⟨_,h,Av.pure wr (by unfold execOp;rw[J];simp[convert,run_underlying A,run_underlying hd,E.1,Conv.intToInt]) ⟨rfl,rfl,λ_ h=>h⟩⟩
 .rename_i b u
  unfold cvI at u;split at u<;>try (cases u;done)
  case h_3=>split at u<;>cases u
  rename_i A hd;exact⟨_,h,Av.pure wr (by unfold execOp;rw[J];simp[convert,run_underlying A,run_underlying hd,E.1]) ⟨rfl,rfl,λ_ h=>h⟩⟩
 .rename_i u
  split at h
  case h_2=>exact h.elim
  rename_i l hl;have Z:∃e,P.underlying s=some (.slice e)/\P.underlying e=some (.int .u8)/\P.underlying d=some .string:=by
   unfold cvI at u;split at u<;>try (cases u;done)
   rename_i e A hd;split at u
   .exact⟨e,A,by assumption,hd⟩
   .cases u
  obtain⟨e,A,he,hd⟩:=Z;refine⟨_,h,Av.pure wr ?_ ⟨rfl,rfl,λ_ h=>h⟩⟩
  unfold execOp;rw[J];have:(convert s d (a.eval x)).run P w=.ok (.string (strOfNums l)) w:=XC wr A he hd E hl;simp[this]
 .obtain⟨z,W,h1,hK⟩:=h
  have e1:=A7 (AF _ _ _ h1 E);subst e1;obtain⟨cz,B,O⟩:=W w D _ _ E;exact⟨z,hK,Av.pure wr (by unfold execOp;rw[J];simp[B]) O⟩
def CC(x:V)(i:Nat)(K:V->Prop):Prop:=
 match x with
 |.many .tu n f=>i<n/\AN (f i)=false/\K (f i)
 |_=>False
theorem Ki(wr:Bu σ w D ρ F){i:Nat}(U:o.op=.extract x i)(J:OpR σ w D ρ F v (a.eval x))(h:CC v i K):∃r,K r/\Av P o a w σ D ρ r:=by
 unfold CC at h;obtain⟨fp,A,_⟩:=J;split at h
 .obtain⟨E,O,Y⟩:=h
  obtain⟨cs,F',u,W,A,_,_⟩:=A;have u:a.eval x=.tuple cs:=u;have B:=A i E;have Z:=A7 (AF _ _ _ O B);rw[Z]at B;refine⟨_,Y,Av.pure wr ?_ B⟩;unfold execOp;rw[U];simp[Instr.extract,u,W,E]
 grind
def qLen(x:V)(K:V->Prop):Prop:=
 match x with
 |.c (.string s)=>K (.c (.int .i64 s.size))
 |.c (.slice none 0 0)=>K (.c (.int .i64 0))
 |.nd true _ _ n _=>K (.c (.int .i64 n))
 |.rs _ _ _ len=>K (.c (.int .i64 len))
 |_=>False
inductive LenI where
 |string|slice|other
def MV(P:Program)(t:TypeId):LenI:=match P.underlying t with
 |some .string=>.string
 |some (.slice _)=>.slice
 |_=>.other
theorem Rel.sliceLen{R:V->Value->Prop}{own:Bool}{sz n:Nat}{f:Nat->Nat->V}(h:Rel D w R (.nd true own sz n f) cv fp):∃a cap,cv=.slice a n cap:=by
 rcases h with⟨rfl,_,u,_⟩|⟨b,o,cap,F,rfl,_⟩
 .obtain⟨a,rfl⟩:=Dd u
  simp
 .exact⟨_,_,rfl⟩
theorem Ur(wr:Bu σ w D ρ F)(O:MV P t=.string/\(∃s,v=.c (.string s))\/MV P t=.slice/\¬ (∃s,v=.c (.string s)))(ho:o.op=.call {callee:=.builtin .len,args:=#[x],argTypes:=#[t]})(hv:OpR σ w D ρ F v (a.eval x))(h:qLen v K):∃r,K r/\Av P o a w σ D ρ r:=by
 unfold qLen at h;obtain⟨fp,U,_⟩:=hv
 have J:∀z,(Builtin.len_ #[t] o.type #[a.eval x]).run P w=.ok z w->(execOp a.eval o).run P w=.ok (.value z) w:=by
  intro z hz;unfold execOp;rw[ho];simp[resolve,invoke,builtin,hz]
 have Y:MV P t=.slice->∃e,P.underlying t=some (.slice e):=by
  intro h;unfold MV at h;split at h<;>first|exact⟨_,‹_›⟩|cases h
 have W:MV P t=.string->P.underlying t=some .string:=by
  intro h;unfold MV at h;split at h<;>first|assumption|cases h
 have B:∀ad n cap,a.eval x=.slice ad n cap->MV P t=.slice->(execOp a.eval o).run P w=.ok (.value (.int .i64 n)) w:=by
  intro ad n cap Z A;obtain⟨e,hu⟩:=Y A;exact J _ (by simp[Builtin.len_,run_underlying hu,Z,goInt])
 split at h
 .rename_i s
  have A:MV P t=.string:=O.elim (λh=>h.1) λh=>absurd ⟨s,rfl⟩ h.2
  exact⟨_,h,Av.pure wr (J _ (by simp[Builtin.len_,run_underlying (W A),U.1,goInt])) ⟨rfl,rfl,λ_ h=>h⟩⟩
 .have A:MV P t=.slice:=O.elim (λh=>by obtain⟨_,s,E⟩:=h;cases E) λh=>h.1
  exact⟨_,h,Av.pure wr (B _ _ _ U.1 A) ⟨rfl,rfl,λ_ h=>h⟩⟩
 .have A:MV P t=.slice:=O.elim (λh=>by obtain⟨_,s,E⟩:=h;cases E) λh=>h.1
  obtain⟨ad,cap,Z⟩:=Rel.sliceLen U;exact⟨_,h,Av.pure wr (B _ _ _ Z A) ⟨rfl,rfl,λ_ h=>h⟩⟩
 .have A:MV P t=.slice:=O.elim (λh=>by obtain⟨_,s,E⟩:=h;cases E) λh=>h.1
  obtain⟨⟨hid,sz,n,f,cn,ha,hle,u⟩,_⟩:=U;rcases u with⟨b,o',cap,rfl,u⟩|⟨h0,ad,u,_⟩
  .exact⟨_,h,Av.pure wr (B _ _ _ u A) ⟨rfl,rfl,λ_ h=>h⟩⟩
  .rename_i len
   subst h0;exact⟨_,h,Av.pure wr (B _ _ _ u A) ⟨rfl,rfl,λ_ h=>h⟩⟩
 .exact h.elim
end ops
end Go.Ve

