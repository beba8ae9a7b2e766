/- The quiet operations of the small machine: addresses, arithmetic, texts, parts. -/
import Derived.Test.YteakdlfnmhlifaaVb
import Derived.Laws.BytesArg
set_option linter.all false
namespace Go.Ve
variable{op:BinOp}{fp:Nat->Prop}{ix x y:Operand}{P:Program}{c:Prop}{d s t:TypeId}{v vi:V}{cv z:Value}
section ops
variable {P:Program}{o:Oper}{a:Act}{w:World}{σ:List V}{D:Nat->Prop}{ρ:Nat->Value}{F:Nat->Nat->Prop}{K:V->Prop}
def J6(e:Option (Nat×Nat))(σ:List V)(x:V)(K:V->Prop):Prop:=
 match e with
 |some (off,fs)=>match x with
  |.nd false false sz n f=>off+fs<=sz/\K (.nd false false fs n λi k=>f i (off+k))
  |.rp id p i k=>k+off<AY σ id p/\K (.rp id p i (k+off))
  |.many .bx n f=>(off+fs<=n/\(List.range fs).all (λk=>!AK (f (off+k)))=true)/\K (.many .bx fs λk=>f (off+k))
  |_=>False
 |none=>False
theorem Ow(wr:Bg σ w D ρ F){fi:Nat}(ho:o.op=.fieldAddr t x fi)(hv:OpR σ w D ρ F v (a.eval x))(h:J6 (Wm P t fi) σ v K):∃r,K r/\Ar P o a w σ D ρ r:=by
 unfold J6 at h;obtain⟨fp,hr,hfD,hfF⟩:=hv;split at h
 case h_2=>exact h.elim
 rename_i off fs hfi;obtain⟨fss,f,i,hu,hf,H,hi,his,hpos⟩:=YS hfi
 have A:∀ad,a.eval x=.pointer (some ad)->(execOp a.eval o).run P w=.ok (.value (.pointer (some (ad.add off)))) w:=by
  intro ad B;have hne:¬ (fs=0):=by omega
  unfold execOp;rw[ho];simp[Instr.fieldAt,run_underlying hu,hf,B,Instr.sureAddr,fieldPlace,sizeOf,typeInfo,hi,his,hne,H]
 split at h
 .rename_i sz n f
  obtain⟨e,O⟩:=h;obtain⟨rfl,b,E,B,W⟩:=Nn hr;refine⟨_,O,Ar.pure wr (A _ B) ?_⟩;rw[A3 rfl];refine .inr ⟨b,E+off,1,λ_ _=>noF,rfl,Nat.le_refl _,by unfold maxLen;omega,λ_=>rfl,?_,λ_=>⟨λ_=>(W 0 (by omega)).1,λ_ _ _ _ _ h=>h,λ_ h=>h⟩,λh=>by cases h⟩
  intro i k hi0 u;obtain rfl:i=0:=by omega
  obtain⟨_,y,hy,Z⟩:=W (off+k) (by omega)
  exact⟨y,by simpa [Nat.add_assoc]using hy,Z⟩
 .rename_i id p i' k'
  obtain⟨e,O⟩:=h;obtain⟨⟨hid,s',sz,n,f,b,E,cap,ha,hi',hk',B⟩,_⟩:=hr;have hns:AY σ id p=sz:=by unfold AY;rw[<-At.sub ha]
  rw[hns]at e;refine⟨_,O,Ar.pure wr (A _ B) ?_⟩;rw[A3 rfl];exact⟨⟨hid,s',sz,n,f,b,E,cap,ha,hi',e,by simp[Nat.add_assoc]⟩,λ_ h=>h⟩
 .rename_i n f
  obtain⟨⟨e,Y⟩,O⟩:=h;obtain⟨b,E,B,hD,W⟩:=Ik hr;refine⟨_,O,Ar.pure wr (A _ B) ?_⟩;rw[A3 rfl]
  obtain⟨cs,U,J⟩:=BR (n:=fs) (p:=λk x=>w.cell? ⟨b,E+off+k,none⟩=some x/\Rel D w (Ai σ ρ w) (f (off+k)) x noF) λk u=>by
   obtain⟨x,fq,h1,h2⟩:=W (off+k) (by omega)
   exact⟨x,by rw[Nat.add_assoc];exact h1,A4 (AC _ _ _ (by simpa using aET.1 Y k (List.mem_range.2 u)) h2)▸h2⟩
  refine⟨cs.toArray,λ_=>noF,⟨b,E+off,rfl,λ_=>hD (by omega),λk u=>?_⟩,by simpa using U,λk u=>?_,λ_ _ _ _ _ _ h=>h.elim,λb=>⟨λh=>h.elim,fun⟨_,_,h⟩=>h⟩⟩
  .have u:k<fs:=by simpa [U]using u
   have:cs[k]? =some (cs.toArray.getD k undef):=by simp[U,u]
   exact(J k _ this).1
  .have:cs[k]? =some (cs.toArray.getD k undef):=by simp[U,u]
   exact(J k _ this).2
 .exact h.elim
def B5(e:Option SlI)(σ:List V)(x ix:V)(K:V->Prop):Prop:=
 match e with
 |some ⟨_,size,_,_⟩=>match x,ix with
  |.nd true false sz n f,.c (.int _ i)=>sz=size/\0<sz/\(0<=i/\i<n)/\K (.nd false false sz 1 λ_ k=>f i.toNat k)
  |.rs id p off len,.c (.int _ i)=>AY σ id p=size/\0<size/\(0<=i/\i<len)/\K (.rp id p (off+i.toNat) 0)
  |_,_=>False
 |none=>False
theorem Jl(wr:Bg σ w D ρ F)(ho:o.op=.indexAddr t x ix)(hv:OpR σ w D ρ F v (a.eval x))(Z:OpR σ w D ρ F vi (a.eval ix))(h:B5 (slI P t) σ v vi K):∃r,K r/\Ar P o a w σ D ρ r:=by
 unfold B5 at h;obtain⟨fp,hr,hfD,hfF⟩:=hv;obtain⟨_,A,_⟩:=Z;split at h
 case h_2=>exact h.elim
 rename_i e size bytes zero hsi;obtain⟨hu,i0,z,J,hz,E,_,_,_,_⟩:=Hj hsi;simp only at hu J E
 have O:∀ad len cap k i,a.eval x=.slice (some ad) len cap->a.eval ix=.int k i->0<=i->i<len->(execOp a.eval o).run P w=.ok (.value (.pointer (some (ad.add (i.toNat*size))))) w:=by
  intro ad len cap k i he he2 W U;unfold execOp;rw[ho];simp[Instr.indexAt,run_underlying hu,he,he2,asIntOf,sizeOf,typeInfo,J,E,W,U]
 split at h
 .rename_i sz n f k i
  obtain⟨rfl,hpos,⟨W,U⟩,hK⟩:=h;obtain⟨b,Y,cap,u,hcap,hc⟩:=Kr hr (by omega)
  refine⟨_,hK,Ar.pure wr (O ⟨b,Y,none⟩ n cap k i (by simpa [Ay]using u) A.1 W U) ?_⟩
  rw[A3 rfl];have H:i.toNat<n:=by omega
  refine .inr ⟨b,Y+i.toNat*sz,1,λ_ _=>noF,rfl,Nat.le_refl _,by unfold maxLen;omega,λ_=>rfl,?_,λ_=>⟨λ_=>(hc _ 0 H (by omega)).1,λ_ _ _ _ _ h=>h,λ_ h=>h⟩,λh=>by cases h⟩
  intro j k0 hj hk;obtain rfl:j=0:=by omega
  obtain⟨_,y,hy,hry⟩:=hc i.toNat k0 H hk;exact⟨y,by simpa using hy,hry⟩
 .rename_i id p off len k i
  obtain⟨hns,hpos,⟨W,U⟩,hK⟩:=h;obtain⟨⟨hid,sz,n,f,cn,ha,hle,u⟩,_⟩:=hr;rcases u with⟨b,Y,cap,rfl,u⟩|⟨h0,_⟩
  .have B:AY σ id p=sz:=by unfold AY;rw[<-At.sub ha]
   rw[B]at hns;subst hns;refine⟨_,hK,Ar.pure wr (O _ len (cap-off) k i u A.1 W U) ?_⟩;rw[A3 rfl];exact⟨⟨hid,true,sz,n,f,b,Y,cap,ha,by omega,by omega,by simp[Nat.add_mul,Nat.add_assoc]⟩,λ_ h=>h⟩
  .omega
 .exact h.elim
def Uv(x ix:V)(K:V->Prop):Prop:=
 match x,ix with
 |.c (.string s),.c (.int _ i)=>(0<=i/\i<s.size)/\K (.c (.int .u8 (s.data.toList.getD i.toNat 0).toNat))
 |_,_=>False
theorem Ov(wr:Bg σ w D ρ F)(H:P.underlying t=some .string)(O:o.op=.index t x ix)(E:OpR σ w D ρ F v (a.eval x))(e:OpR σ w D ρ F vi (a.eval ix))(h:Uv v vi K):∃r,K r/\Ar P o a w σ D ρ r:=by
 unfold Uv at h;obtain⟨fp,J,W,U⟩:=E;obtain⟨_,u,_⟩:=e;split at h<;>try (exact h.elim)
 rename_i s k i;obtain⟨⟨Y,Z⟩,hK⟩:=h;refine⟨_,hK,Ar.pure wr ?_ ⟨rfl,rfl,λ_ h=>h⟩⟩
 have B:i.toNat<s.size:=by omega
 have A:=B
 have:s[i.toNat]? =some (s.data.toList.getD i.toNat 0):=by
  rw[getElem?_pos s i.toNat B];rw[gDE,gEE (by simpa using A)]
  rfl
 unfold execOp;rw[O];simp[Instr.index,run_underlying H,J.1,u.1,asIntOf,Y,this]
def AcD(x:V)(K:V->Prop):Prop:=
 match x with
 |.nd false false sz n f=>K (.nd false false sz n f)
 |.rp id p i k=>K (.rp id p i k)
 |.many .bx n f=>AK (.many .bx n f)=false/\K (.many .bx n f)
 |_=>False
theorem VO(wr:Bg σ w D ρ F)(ho:o.op=.nilCheck x)(U:OpR σ w D ρ F v (a.eval x))(h:AcD v K):∃r,K r/\Ar P o a w σ D ρ r:=by
 unfold AcD at h;obtain⟨fp,e,Y,W⟩:=U
 have u:∀ad,a.eval x=.pointer (some ad)->(execOp a.eval o).run P w=.ok (.value (a.eval x)) w:=by
  intro ad A;unfold execOp;simp_all
 split at h
 .obtain⟨_,b,B,A,hc⟩:=Nn e
  exact⟨_,h,Ar.pure wr (u _ A) (A4 (AC _ _ _ rfl e)▸e)⟩
 .obtain⟨⟨J,s',sz,n,f,b,B,cap,Z,O,H,A⟩,hf⟩:=e
  exact⟨_,h,Ar.pure wr (u _ A) ⟨⟨J,s',sz,n,f,b,B,cap,Z,O,H,A⟩,λ_ h=>h⟩⟩
 .obtain⟨E,hK⟩:=h
  obtain⟨b,B,A,_⟩:=Ik e;exact⟨_,hK,Ar.pure wr (u _ A) (A4 (AC _ _ _ E e)▸e)⟩
 grind
def andI(k:IntKind)(a b:Int):Int:=k.wrap (BitVec.ofInt k.bits a&&&BitVec.ofInt k.bits b).toNat
def bncI(k:IntKind)(a b:Int):Int:=k.wrap (BitVec.ofInt k.bits a&&& ~~~BitVec.ofInt k.bits b).toNat
def shlI(k:IntKind)(a b:Int):Int:=k.wrap (a*2 ^ min b.toNat k.bits)
def shrI(k:IntKind)(a b:Int):Int:=a.fdiv (2 ^ min b.toNat k.bits)
def vsh(op:BinOp)(k:IntKind)(a b:Int):Option (Prop×Value):=match op with
 |.shl=>some (0<=b,.int k (shlI k a b))
 |.shr=>some (0<=b,.int k (shrI k a b))
 |_=>none
def WR{w:World}{k k':IntKind}{a b:Int}(h:vsh op k a b=some (c,z))(u:c):(binOp op t (.int k a) (.int k' b)).run P w=.ok z w/\z.oneCell'=true/\(op=.shl\/op=.shr):=by
 unfold vsh at h;split at h<;>simp only[Option.some.injEq,reduceCtorEq]at h<;>obtain⟨rfl,rfl⟩:=h<;>refine⟨?_,rfl,by simp⟩
 .have e:¬b<0:=by omega
  simp[binOp,Op.shift,e,shlI]
 .have e:¬b<0:=by omega
  simp[binOp,Op.shift,e,shrI]
def Ab1(op:BinOp)(x y:Value):Option (Prop×Value):=
 match x,y with
 |.int k a,.int k' b=>match vsh op k a b with
  |some r=>some r
  |none=>if k=k' then match op with
  |.and=>some (True,.int k (andI k a b))
  |.andNot=>some (True,.int k (bncI k a b))
  |.add=>some (True,.int k (k.wrap (a+b)))
  |.sub=>some (True,.int k (k.wrap (a-b)))
  |.mul=>some (True,.int k (k.wrap (a*b)))
  |.quo=>some (b≠0,.int k (k.wrap (a.tdiv b)))
  |.rem=>some (b≠0,.int k (a.tmod b))
  |.eql=>some (True,.bool (decide (a=b)))
  |.neq=>some (True,.bool (!decide (a=b)))
  |.lss=>some (True,.bool (decide (a<b)))
  |.leq=>some (True,.bool (decide (a<=b)))
  |.gtr=>some (True,.bool (decide (b<a)))
  |.geq=>some (True,.bool (decide (b<=a)))
  |_=>none
  else none
 |.string a,.string b=>match op with
  |.add=>some ((a.size+b.size:Nat)<=9223372036854775807,.string (a++b))
  |.eql=>some (True,.bool (decide (a.data.toList=b.data.toList)))
  |.neq=>some (True,.bool (!decide (a.data.toList=b.data.toList)))
  |.lss=>some (True,.bool (Op.bytesLess a.data.toList b.data.toList))
  |_=>none
 |_,_=>none
def toList_eq(s:ByteArray):s.toList=s.data.toList:=by
 exact ByteArray.toList_eq s
theorem Vp{x y:Value}(h:Ab1 op x y=some (c,z))(e:c):(binOp op t x y).run P w=.ok z w/\z.oneCell'=true:=by
 unfold Ab1 at h;split at h
 .rename_i k a k' b
  split at h
  .rename_i r u
   cases h;obtain⟨H,E,_⟩:=WR (P:=P) (w:=w) (k':=k') (t:=t) u e;exact⟨H,E⟩
  split at h
  .rename_i B;subst B
   split at h<;>simp only[Option.some.injEq,Prod.mk.injEq,reduceCtorEq]at h<;>obtain⟨rfl,rfl⟩:=h<;>refine⟨?_,rfl⟩
   all_goals (first|(simp[binOp,Op.intBits,andI,bncI];done)|(simp[binOp,Op.intArith];done)|(simp[binOp,Op.intCmp];done)|(simp[binOp,Op.intDiv,e];done)|skip)
   .simp[binOp,Op.intCmp];rfl
   .simp[binOp,Op.intCmp,bne];rfl
  .cases h
 .rename_i a b
  split at h<;>simp only[Option.some.injEq,Prod.mk.injEq,reduceCtorEq]at h<;>obtain⟨rfl,rfl⟩:=h<;>refine⟨?_,rfl⟩
  .have A:¬ (IntKind.i64.max<((a.size:Int)+(b.size:Int))):=by
    have:IntKind.i64.max=9223372036854775807:=by decide
    rw[this];omega
   simp[binOp,Op.stringOp,A];omega
  .simp[binOp,Op.stringOp,toList_eq];rw[Bool.eq_iff_iff];simp
  .simp[binOp,Op.stringOp,toList_eq];rw[Bool.eq_iff_iff];simp
  .simp[binOp,Op.stringOp,toList_eq]
 .cases h
def Ip(P:Program)(op:BinOp)(t:TypeId)(x y:Operand)(B A:V)(z:V):Prop:=
 ∀(w:World) (D:Nat->Prop) (R:V->Value->Prop) (cx e:Value),Rel D w R B cx noF->Rel D w R A e noF->
  ∃u,(do eqGuard op t x y cx e;binOp op t cx e:Sem Value).run P w=.ok u w/\Rel D w R z u noF
def VV(P:Program)(op:BinOp)(t:TypeId)(x y:Operand)(u e:V)(K:V->Prop):Prop:=
 match u,e with
 |.c a,.c b=>match Ab1 op a b with
  |some (c,z)=>c/\K (.c z)
  |none=>∃z,Ip P op t x y u e z/\AK u=false/\AK e=false/\K z
 |_,_=>∃z,Ip P op t x y u e z/\AK u=false/\AK e=false/\K z
theorem Lf{a b:Value}(h:Ab1 op a b≠none):(eqGuard op t x y a b).run P w=.ok () w:=by
 unfold Ab1 at h;split at h
 .simp[eqGuard]
 .simp[eqGuard]
 grind
theorem VU(wr:Bg σ w D ρ F){yt:TypeId}{E B:V}(W:o.op=.binOp op t x y yt)(A:OpR σ w D ρ F E (a.eval x))(u:OpR σ w D ρ F B (a.eval y))(h:VV P op t x y E B K):∃r,K r/\Ar P o a w σ D ρ r:=by
 obtain⟨fx,A,_⟩:=A;obtain⟨fy,u,_⟩:=u;have gen:(∃z,Ip P op t x y E B z/\AK E=false/\AK B=false/\K z)->∃r,K r/\Ar P o a w σ D ρ r:=by
  rintro ⟨z,H,U,h2,O⟩
  have Z:=A4 (AC _ _ _ U A);have Y:=A4 (AC _ _ _ h2 u);subst Z;subst Y;obtain⟨cz,e,J⟩:=H w D _ _ _ A u;refine⟨z,O,Ar.pure wr ?_ J⟩;unfold execOp;rw[W];simp only[Sem.run_bind,e,Result.andThen];rfl
 unfold VV at h;split at h
 .rename_i ax ay
  split at h
  .rename_i c z H
   obtain⟨hc,O⟩:=h;obtain⟨e,U⟩:=Vp (P:=P) (w:=w) (t:=t) H hc;refine⟨_,O,Ar.pure wr ?_ ⟨rfl,U,λ_ h=>h⟩⟩
   have Z:a.eval x=ax:=A.1;have Y:=u.1;unfold execOp;rw[W];have:=Lf (P:=P) (w:=w) (op:=op) (t:=t) (x:=x) (y:=y) (a:=ax) (b:=ay) (by rw[H];simp)
   simp_all
  .exact gen h
 .exact gen h
def qUn(op:UnOp)(x:V)(K:V->Prop):Prop:=
 match op,x with
 |.not,.c (.bool b)=>K (.c (.bool (!b)))
 |.neg,.c (.int k n)=>K (.c (.int k (k.wrap (0-n))))
 |_,_=>False
theorem XV(wr:Bg σ w D ρ F){op:UnOp}(u:o.op=.unOp op t x)(A:OpR σ w D ρ F v (a.eval x))(h:qUn op v K):∃r,K r/\Ar P o a w σ D ρ r:=by
 unfold qUn at h;obtain⟨fp,e,_⟩:=A;split at h
 .exact⟨_,h,Ar.pure wr (by unfold execOp;rw[u];simp[Op.unary,e.1]) ⟨rfl,rfl,λ_ h=>h⟩⟩
 .exact⟨_,h,Ar.pure wr (by unfold execOp;rw[u];simp[Op.unary,e.1,Op.intArith]) ⟨rfl,rfl,λ_ h=>h⟩⟩
 grind
inductive CvI where
 |int (k:IntKind)
 |string
 |bytes
 |other
def cvI(P:Program)(s d:TypeId):CvI:=
 match P.underlying s,P.underlying d with
 |some _,some (.int k)=>.int k
 |some .string,some .string=>.string
 |some (.slice e),some .string=>match P.underlying e with
  |some (.int .u8)=>.bytes
  |_=>.other
 |_,_=>.other
def AdJ(f:Nat->V):Nat->Option (List Int)
 |0=>some []
 |n+1=>match AdJ f n,f n with
  |some l,.c (.int .u8 k)=>some (l++[k])
  |_,_=>none
theorem NT{f:Nat->V}:∀{n:Nat}{l:List Int},AdJ f n=some l->l.length=n/\∀i,i<n->f i=.c (.int .u8 (l.getD i 0))
 |0,l,h=>by cases h;grind
 |n+1,l,h=>by
  unfold AdJ at h;split at h
  .rename_i u k e A
   cases h;obtain⟨g1,g2⟩:=NT e
   grind
  grind
def bytV(σ:List V):V->Option (List Int)
 |.nd true _ 1 n f=>AdJ (λi=>f i 0) n
 |.rs id p off len=>match sub p (σ.getD id .dead)with
  |.nd true true 1 n f=>if off+len<=n then AdJ (λi=>f (off+i) 0) len else none
  |_=>none
 |_=>none
def AdG(P:Program)(s d:TypeId)(u:V)(z:V):Prop:=
 ∀(w:World) (D:Nat->Prop) (R:V->Value->Prop) (cx:Value),Rel D w R u cx noF->∃e,(convert s d cx).run P w=.ok e w/\Rel D w R z e noF
theorem L8(w:World)(u dst e:TypeId)(A:P.underlying u=some (.slice e))(B:P.underlying e=some (.int .u8))(hd:P.underlying dst=some .string)(ad:Option Addr)(c:Nat):
  (convert u dst (.slice ad 0 c)).run P w=.ok (.string (strOfNums [])) w:=by
 cases ad with
 |none=>rw[run_convert_bytes_nil w u e A B 0 c dst hd];rfl
 |some a=>
  have E:(loadCells a 0).run P w=.ok #[] w:=by
   rfl
  rw[run_convert_bytes_string w u dst e _ 0 c A B hd,run_bytesToString w _ 0 c [] (by rfl)]
  rfl
theorem Y5(wr:Bg σ w D ρ F){e:TypeId}{v:V}{cv:Value}{fp:Nat->Prop}{l:List Int}(Y:P.underlying s=some (.slice e))(he:P.underlying e=some (.int .u8))(hd:P.underlying d=some .string)
  (hr:Rel D w (Ai σ ρ w) v cv fp) (A:bytV σ v=some l):(convert s d cv).run P w=.ok (.string (strOfNums l)) w:=by
 have node:∀{own:Bool}{n:Nat}{f:Nat->Nat->V}{b o cap:Nat}{off len:Nat},(∀i k,i<n->k<1->∃x,w.cell? ⟨b,o+i*1+k,none⟩=some x/\∃fp,Rel D w noR (f i k) x fp)->off+len<=n->AdJ (λi=>f (off+i) 0) len=some l->
   ∀B,(convert s d (.slice (some ⟨b,o+off*1,none⟩) len B)).run P w=.ok (.string (strOfNums l)) w:=by
  intro own n f b o cap off len W O hu B;obtain⟨g1,g2⟩:=NT hu;refine run_convert_bytes_arg w s e Y he b (o+off*1) len B l g1 (λi hi=>?_) d hd
  obtain⟨x,E,fp,u⟩:=W (off+i) 0 (by omega) (by omega)
  rw[g2 i hi]at u;rw[<-u.1];have:o+(off+i)*1+0=o+off*1+i:=by omega
  rw[this]at E;exact E
 unfold bytV at A;split at A
 .rename_i own n f
  rcases hr with⟨h0,_,hn,_⟩|⟨b,o,cap,F0,rfl,_,_,_,W,_⟩
  .obtain⟨ad,rfl⟩:=CF hn
   subst h0;cases A;exact L8 w s d e Y he hd ad 0
  .have:=node (own:=own) (cap:=cap) (off:=0) (len:=n) (λi k hi hk=>by obtain⟨x,E,u⟩:=W i k hi hk;exact⟨x,E,_,u⟩) (by omega) (by simpa using A) cap
   simpa [Ay]using this
 .rename_i id p off len
  split at A
  case h_2=>cases A
  rename_i n f H;split at A
  case isFalse=>cases A
  rename_i O;obtain⟨⟨hid,sz,n',f',cn,ha,hle',hcv⟩,_⟩:=hr;have J:=At.sub ha;rw[H]at J;cases J;obtain⟨fp1,Z,_⟩:=Dg (w':=w) p _ _ _ _ _ (wr.rel id hid) (λb hb h'=>wr.dD id b h' hb) ha
  rcases hcv with⟨b,o,cap,rfl,rfl⟩|⟨h0,ad,rfl,_⟩
  .rcases Z with⟨_,_,hn,_⟩|⟨b2,o2,cap2,F2,U,_,_,_,W,_⟩
   .exact absurd hn BP
   .obtain⟨rfl,rfl,_⟩:=As U
    exact node (own:=true) (cap:=cap) (off:=off) (len:=len) (λi k hi hk=>by obtain⟨x,E,u⟩:=W i k hi hk;exact⟨x,E,_,u⟩) O A (cap-off)
  .subst h0
   cases A;exact L8 w s d e Y he hd _ 0
 .cases A
def VS(P:Program)(σ:List V)(s d:TypeId)(x:V)(K:V->Prop):Prop:=
 match cvI P s d,x with
 |.int k,.c (.int _ n)=>K (.c (.int k (k.wrap n)))
 |.string,.c (.string b)=>K (.c (.string b))
 |.bytes,x=>match bytV σ x with
  |some l=>K (.c (.string (strOfNums l)))
  |none=>False
 |_,_=>∃z,AdG P s d x z/\AK x=false/\K z
theorem Qf(wr:Bg σ w D ρ F)(H:o.op=.convert s d x)(W:OpR σ w D ρ F v (a.eval x))(h:VS P σ s d v K):∃r,K r/\Ar P o a w σ D ρ r:=by
 obtain⟨fp,E,_⟩:=W;unfold VS at h;split at h
 .rename_i k k' n u
  unfold cvI at u;split at u<;>try (cases u;done)
  case h_3=>split at u<;>cases u
  rename_i d' O A hd;cases u;exact⟨_,h,Ar.pure wr (by unfold execOp;rw[H];simp[convert,run_underlying A,run_underlying hd,E.1,Conv.intToInt]) ⟨rfl,rfl,λ_ h=>h⟩⟩
 .rename_i b u
  unfold cvI at u;split at u<;>try (cases u;done)
  case h_3=>split at u<;>cases u
  rename_i A hd;exact⟨_,h,Ar.pure wr (by unfold execOp;rw[H];simp[convert,run_underlying A,run_underlying hd,E.1]) ⟨rfl,rfl,λ_ h=>h⟩⟩
 .rename_i u
  split at h
  case h_2=>exact h.elim
  rename_i l Z;have Y:∃e,P.underlying s=some (.slice e)/\P.underlying e=some (.int .u8)/\P.underlying d=some .string:=by
   unfold cvI at u;split at u<;>try (cases u;done)
   rename_i e A hd;split at u
   .exact⟨e,A,by assumption,hd⟩
   .cases u
  obtain⟨e,A,he,hd⟩:=Y;refine⟨_,h,Ar.pure wr ?_ ⟨rfl,rfl,λ_ h=>h⟩⟩
  unfold execOp;rw[H];have:(convert s d (a.eval x)).run P w=.ok (.string (strOfNums l)) w:=Y5 wr A he hd E Z;simp[this]
 .obtain⟨z,U,h1,hK⟩:=h
  have e1:=A4 (AC _ _ _ h1 E);subst e1;obtain⟨cz,B,J⟩:=U w D _ _ E;exact⟨z,hK,Ar.pure wr (by unfold execOp;rw[H];simp[B]) J⟩
def Cz(x:V)(i:Nat)(K:V->Prop):Prop:=
 match x with
 |.many .tu n f=>i<n/\AK (f i)=false/\K (f i)
 |_=>False
theorem La(wr:Bg σ w D ρ F){i:Nat}(H:o.op=.extract x i)(B:OpR σ w D ρ F v (a.eval x))(h:Cz v i K):∃r,K r/\Ar P o a w σ D ρ r:=by
 unfold Cz at h;obtain⟨fp,u,_⟩:=B;split at h
 .obtain⟨hi,E,O⟩:=h
  obtain⟨cs,F',e,J,u,_,_⟩:=u;have e:a.eval x=.tuple cs:=e;have A:=u i hi;have U:=A4 (AC _ _ _ E A);rw[U]at A;refine⟨_,O,Ar.pure wr ?_ A⟩;unfold execOp;rw[H];simp[Instr.extract,e,J,hi]
 grind
def qLen(x:V)(K:V->Prop):Prop:=
 match x with
 |.c (.string s)=>K (.c (.int .i64 s.size))
 |.c (.slice none 0 0)=>K (.c (.int .i64 0))
 |.nd true _ _ n _=>K (.c (.int .i64 n))
 |.rs _ _ _ len=>K (.c (.int .i64 len))
 |_=>False
inductive LenI where
 |string|slice|other
def NP(P:Program)(t:TypeId):LenI:=match P.underlying t with
 |some .string=>.string
 |some (.slice _)=>.slice
 |_=>.other
theorem Rel.sliceLen{R:V->Value->Prop}{own:Bool}{sz n:Nat}{f:Nat->Nat->V}(h:Rel D w R (.nd true own sz n f) cv fp):∃a cap,cv=.slice a n cap:=by
 rcases h with⟨rfl,_,e,_⟩|⟨b,o,cap,F,rfl,_⟩
 .obtain⟨a,rfl⟩:=CF e
  simp
 .exact⟨_,_,rfl⟩
theorem VR(wr:Bg σ w D ρ F)(J:NP P t=.string/\(∃s,v=.c (.string s))\/NP P t=.slice/\¬ (∃s,v=.c (.string s)))(ho:o.op=.call {callee:=.builtin .len,args:=#[x],argTypes:=#[t]})(hv:OpR σ w D ρ F v (a.eval x))(h:qLen v K):∃r,K r/\Ar P o a w σ D ρ r:=by
 unfold qLen at h;obtain⟨fp,O,_⟩:=hv
 have H:∀z,(Builtin.len_ #[t] o.type #[a.eval x]).run P w=.ok z w->(execOp a.eval o).run P w=.ok (.value z) w:=by
  intro z Z;unfold execOp;rw[ho];simp[resolve,invoke,builtin,Z]
 have W:NP P t=.slice->∃e,P.underlying t=some (.slice e):=by
  intro h;unfold NP at h;split at h<;>first|exact⟨_,‹_›⟩|cases h
 have U:NP P t=.string->P.underlying t=some .string:=by
  intro h;unfold NP at h;split at h<;>first|assumption|cases h
 have B:∀ad n cap,a.eval x=.slice ad n cap->NP P t=.slice->(execOp a.eval o).run P w=.ok (.value (.int .i64 n)) w:=by
  intro ad n cap Y A;obtain⟨e,hu⟩:=W A;exact H _ (by simp[Builtin.len_,run_underlying hu,Y,goInt])
 split at h
 .rename_i s
  have A:NP P t=.string:=J.elim (λh=>h.1) λh=>absurd ⟨s,rfl⟩ h.2
  exact⟨_,h,Ar.pure wr (H _ (by simp[Builtin.len_,run_underlying (U A),O.1,goInt])) ⟨rfl,rfl,λ_ h=>h⟩⟩
 .have A:NP P t=.slice:=J.elim (λh=>by obtain⟨_,s,E⟩:=h;cases E) λh=>h.1
  exact⟨_,h,Ar.pure wr (B _ _ _ O.1 A) ⟨rfl,rfl,λ_ h=>h⟩⟩
 .have A:NP P t=.slice:=J.elim (λh=>by obtain⟨_,s,E⟩:=h;cases E) λh=>h.1
  obtain⟨ad,cap,Y⟩:=Rel.sliceLen O;exact⟨_,h,Ar.pure wr (B _ _ _ Y A) ⟨rfl,rfl,λ_ h=>h⟩⟩
 .have A:NP P t=.slice:=J.elim (λh=>by obtain⟨_,s,E⟩:=h;cases E) λh=>h.1
  obtain⟨⟨hid,sz,n,f,cn,ha,hle,u⟩,_⟩:=O;rcases u with⟨b,o',cap,rfl,u⟩|⟨h0,ad,u,_⟩
  .exact⟨_,h,Ar.pure wr (B _ _ _ u A) ⟨rfl,rfl,λ_ h=>h⟩⟩
  .rename_i len
   subst h0;exact⟨_,h,Ar.pure wr (B _ _ _ u A) ⟨rfl,rfl,λ_ h=>h⟩⟩
 .exact h.elim
end ops
end Go.Ve

