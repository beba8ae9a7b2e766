/- The quiet operations of the small machine: addresses, arithmetic, texts, parts. -/
import Derived.Test.YtmmmafnkggaknaaGreatVb
import Derived.Laws.BytesArg
set_option linter.all false
namespace Go.Ve
variable{op:BinOp}{fp:Nat->Prop}{ix x y:Operand}{P:Program}{c:Prop}{d s t:TypeId}{v vi:V}{cv z:Value}
section ops
variable {P:Program}{o:Oper}{a:Act}{w:World}{σ:List V}{D:Nat->Prop}{ρ:Nat->Value}{F:Nat->Nat->Prop}{K:V->Prop}
def Jl(e:Option (Nat×Nat))(σ:List V)(x:V)(K:V->Prop):Prop:=
 match e with
 |some (off,fs)=>match x with
  |.nd false false sz n f=>off+fs<=sz/\K (.nd false false fs n λi k=>f i (off+k))
  |.rp id p i k=>k+off<AT σ id p/\K (.rp id p i (k+off))
  |.many .bx n f=>(off+fs<=n/\(List.range fs).all (λk=>!AL (f (off+k)))=true)/\K (.many .bx fs λk=>f (off+k))
  |_=>False
 |none=>False
theorem MK(wr:BG σ w D ρ F){fi:Nat}(ho:o.op=.fieldAddr t x fi)(hv:OpR σ w D ρ F v (a.eval x))(h:Jl (QH P t fi) σ v K):∃r,K r/\Aw P o a w σ D ρ r:=by
 unfold Jl at h;obtain⟨fp,hr,hfD,hfF⟩:=hv;split at h
 case h_2=>exact h.elim
 rename_i off fs hfi;obtain⟨fss,f,i,hu,hf,J,hi,his,hpos⟩:=VZ hfi
 have A:∀ad,a.eval x=.pointer (some ad)->(execOp a.eval o).run P w=.ok (.value (.pointer (some (ad.add off)))) w:=by
  intro ad B;have hne:¬ (fs=0):=by omega
  unfold execOp;rw[ho];simp[Instr.fieldAt,run_underlying hu,hf,B,Instr.sureAddr,fieldPlace,sizeOf,typeInfo,hi,his,hne,J]
 split at h
 .rename_i sz n f
  obtain⟨e,W⟩:=h;obtain⟨rfl,b,E,B,hc⟩:=LC hr;refine⟨_,W,Aw.pure wr (A _ B) ?_⟩;rw[AX rfl];refine .inr ⟨b,E+off,1,λ_ _=>noF,rfl,Nat.le_refl _,by unfold maxLen;omega,λ_=>rfl,?_,λ_=>⟨λ_=>(hc 0 (by omega)).1,λ_ _ _ _ _ h=>h,λ_ h=>h⟩,λh=>by cases h⟩
  intro i k hi0 u;obtain rfl:i=0:=by omega
  obtain⟨_,y,hy,hry⟩:=hc (off+k) (by omega)
  exact⟨y,by simpa [Nat.add_assoc]using hy,hry⟩
 .rename_i id p i' k'
  obtain⟨e,W⟩:=h;obtain⟨⟨hid,s',sz,n,f,b,E,cap,ha,hi',hk',B⟩,_⟩:=hr;have hns:AT σ id p=sz:=by unfold AT;rw[<-At.sub ha]
  rw[hns]at e;refine⟨_,W,Aw.pure wr (A _ B) ?_⟩;rw[AX rfl];exact⟨⟨hid,s',sz,n,f,b,E,cap,ha,hi',e,by simp[Nat.add_assoc]⟩,λ_ h=>h⟩
 .rename_i n f
  obtain⟨⟨e,hto⟩,W⟩:=h;obtain⟨b,E,B,hD,hc⟩:=HO hr;refine⟨_,W,Aw.pure wr (A _ B) ?_⟩;rw[AX rfl]
  obtain⟨cs,Z,U⟩:=BQ (n:=fs) (p:=λk x=>w.cell? ⟨b,E+off+k,none⟩=some x/\Rel D w (Au σ ρ w) (f (off+k)) x noF) λk u=>by
   obtain⟨x,fq,h1,h2⟩:=hc (off+k) (by omega)
   exact⟨x,by rw[Nat.add_assoc];exact h1,A6 (AE _ _ _ (by simpa using aET.1 hto k (List.mem_range.2 u)) h2)▸h2⟩
  refine⟨cs.toArray,λ_=>noF,⟨b,E+off,rfl,λ_=>hD (by omega),λk u=>?_⟩,by simpa using Z,λk u=>?_,λ_ _ _ _ _ _ h=>h.elim,λb=>⟨λh=>h.elim,fun⟨_,_,h⟩=>h⟩⟩
  .have u:k<fs:=by simpa [Z]using u
   have:cs[k]? =some (cs.toArray.getD k undef):=by simp[Z,u]
   exact(U k _ this).1
  .have:cs[k]? =some (cs.toArray.getD k undef):=by simp[Z,u]
   exact(U k _ this).2
 .exact h.elim
def B6(e:Option SlI)(σ:List V)(x ix:V)(K:V->Prop):Prop:=
 match e with
 |some ⟨_,size,_,_⟩=>match x,ix with
  |.nd true false sz n f,.c (.int _ i)=>sz=size/\0<sz/\(0<=i/\i<n)/\K (.nd false false sz 1 λ_ k=>f i.toNat k)
  |.rs id p off len,.c (.int _ i)=>AT σ id p=size/\0<size/\(0<=i/\i<len)/\K (.rp id p (off+i.toNat) 0)
  |_,_=>False
 |none=>False
theorem IC(wr:BG σ w D ρ F)(ho:o.op=.indexAddr t x ix)(hv:OpR σ w D ρ F v (a.eval x))(hvi:OpR σ w D ρ F vi (a.eval ix))(h:B6 (slI P t) σ v vi K):∃r,K r/\Aw P o a w σ D ρ r:=by
 unfold B6 at h;obtain⟨fp,hr,hfD,hfF⟩:=hv;obtain⟨_,A,_⟩:=hvi;split at h
 case h_2=>exact h.elim
 rename_i e size bytes zero hsi;obtain⟨hu,i0,z,U,hz,E,_,_,_,_⟩:=DN hsi;simp only at hu U E
 have W:∀ad len cap k i,a.eval x=.slice (some ad) len cap->a.eval ix=.int k i->0<=i->i<len->(execOp a.eval o).run P w=.ok (.value (.pointer (some (ad.add (i.toNat*size))))) w:=by
  intro ad len cap k i he he2 h1 Z;unfold execOp;rw[ho];simp[Instr.indexAt,run_underlying hu,he,he2,asIntOf,sizeOf,typeInfo,U,E,h1,Z]
 split at h
 .rename_i sz n f k i
  obtain⟨rfl,hpos,⟨h1,Z⟩,hK⟩:=h;obtain⟨b,o',cap,u,hcap,hc⟩:=Jx hr (by omega)
  refine⟨_,hK,Aw.pure wr (W ⟨b,o',none⟩ n cap k i (by simpa [AC]using u) A.1 h1 Z) ?_⟩
  rw[AX rfl];have J:i.toNat<n:=by omega
  refine .inr ⟨b,o'+i.toNat*sz,1,λ_ _=>noF,rfl,Nat.le_refl _,by unfold maxLen;omega,λ_=>rfl,?_,λ_=>⟨λ_=>(hc _ 0 J (by omega)).1,λ_ _ _ _ _ h=>h,λ_ h=>h⟩,λh=>by cases h⟩
  intro j k0 hj hk;obtain rfl:j=0:=by omega
  obtain⟨_,y,hy,hry⟩:=hc i.toNat k0 J hk;exact⟨y,by simpa using hy,hry⟩
 .rename_i id p off len k i
  obtain⟨hns,hpos,⟨h1,Z⟩,hK⟩:=h;obtain⟨⟨hid,sz,n,f,cn,ha,hle,u⟩,_⟩:=hr;rcases u with⟨b,o',cap,rfl,u⟩|⟨h0,_⟩
  .have B:AT σ id p=sz:=by unfold AT;rw[<-At.sub ha]
   rw[B]at hns;subst hns;refine⟨_,hK,Aw.pure wr (W _ len (cap-off) k i u A.1 h1 Z) ?_⟩;rw[AX rfl];exact⟨⟨hid,true,sz,n,f,b,o',cap,ha,by omega,by omega,by simp[Nat.add_mul,Nat.add_assoc]⟩,λ_ h=>h⟩
  .omega
 .exact h.elim
def O7(x ix:V)(K:V->Prop):Prop:=
 match x,ix with
 |.c (.string s),.c (.int _ i)=>(0<=i/\i<s.size)/\K (.c (.int .u8 (s.data.toList.getD i.toNat 0).toNat))
 |_,_=>False
theorem MJ(wr:BG σ w D ρ F)(J:P.underlying t=some .string)(W:o.op=.index t x ix)(E:OpR σ w D ρ F v (a.eval x))(e:OpR σ w D ρ F vi (a.eval ix))(h:O7 v vi K):∃r,K r/\Aw P o a w σ D ρ r:=by
 unfold O7 at h;obtain⟨fp,U,hfD,Z⟩:=E;obtain⟨_,u,_⟩:=e;split at h<;>try (exact h.elim)
 rename_i s k i;obtain⟨⟨h1,h2⟩,hK⟩:=h;refine⟨_,hK,Aw.pure wr ?_ ⟨rfl,rfl,λ_ h=>h⟩⟩
 have B:i.toNat<s.size:=by omega
 have A:=B
 have:s[i.toNat]? =some (s.data.toList.getD i.toNat 0):=by
  rw[getElem?_pos s i.toNat B];rw[gDE,gEE (by simpa using A)]
  rfl
 unfold execOp;rw[W];simp[Instr.index,run_underlying J,U.1,u.1,asIntOf,h1,this]
def Zw(x:V)(K:V->Prop):Prop:=
 match x with
 |.nd false false sz n f=>K (.nd false false sz n f)
 |.rp id p i k=>K (.rp id p i k)
 |.many .bx n f=>AL (.many .bx n f)=false/\K (.many .bx n f)
 |_=>False
theorem Qh(wr:BG σ w D ρ F)(ho:o.op=.nilCheck x)(Z:OpR σ w D ρ F v (a.eval x))(h:Zw v K):∃r,K r/\Aw P o a w σ D ρ r:=by
 unfold Zw at h;obtain⟨fp,e,hfD,hfF⟩:=Z
 have u:∀ad,a.eval x=.pointer (some ad)->(execOp a.eval o).run P w=.ok (.value (a.eval x)) w:=by
  intro ad A;unfold execOp;simp_all
 split at h
 .obtain⟨_,b,B,A,hc⟩:=LC e
  exact⟨_,h,Aw.pure wr (u _ A) (A6 (AE _ _ _ rfl e)▸e)⟩
 .obtain⟨⟨U,s',sz,n,f,b,B,cap,ha,W,J,A⟩,hf⟩:=e
  exact⟨_,h,Aw.pure wr (u _ A) ⟨⟨U,s',sz,n,f,b,B,cap,ha,W,J,A⟩,λ_ h=>h⟩⟩
 .obtain⟨E,hK⟩:=h
  obtain⟨b,B,A,_⟩:=HO e;exact⟨_,hK,Aw.pure wr (u _ A) (A6 (AE _ _ _ E e)▸e)⟩
 grind
def YP(k:IntKind)(a b:Int):Int:=k.wrap (BitVec.ofInt k.bits a&&&BitVec.ofInt k.bits b).toNat
def shlI(k:IntKind)(a b:Int):Int:=k.wrap (a*2 ^ min b.toNat k.bits)
def Zk(k:IntKind)(a b:Int):Int:=a.fdiv (2 ^ min b.toNat k.bits)
def vsh(op:BinOp)(k:IntKind)(a b:Int):Option (Prop×Value):=match op with
 |.shl=>some (0<=b,.int k (shlI k a b))
 |.shr=>some (0<=b,.int k (Zk k a b))
 |_=>none
def Uf{w:World}{k k':IntKind}{a b:Int}(h:vsh op k a b=some (c,z))(u:c):(binOp op t (.int k a) (.int k' b)).run P w=.ok z w/\z.oneCell'=true/\(op=.shl\/op=.shr):=by
 unfold vsh at h;split at h<;>simp only[Option.some.injEq,reduceCtorEq]at h<;>obtain⟨rfl,rfl⟩:=h<;>refine⟨?_,rfl,by simp⟩
 .have e:¬b<0:=by omega
  simp[binOp,Op.shift,e,shlI]
 .have e:¬b<0:=by omega
  simp[binOp,Op.shift,e,Zk]
def YT(op:BinOp)(x y:Value):Option (Prop×Value):=
 match x,y with
 |.int k a,.int k' b=>match vsh op k a b with
  |some r=>some r
  |none=>if k=k' then match op with
  |.and=>some (True,.int k (YP k a b))
  |.add=>some (True,.int k (k.wrap (a+b)))
  |.sub=>some (True,.int k (k.wrap (a-b)))
  |.mul=>some (True,.int k (k.wrap (a*b)))
  |.quo=>some (b≠0,.int k (k.wrap (a.tdiv b)))
  |.rem=>some (b≠0,.int k (a.tmod b))
  |.eql=>some (True,.bool (decide (a=b)))
  |.neq=>some (True,.bool (!decide (a=b)))
  |.lss=>some (True,.bool (decide (a<b)))
  |.leq=>some (True,.bool (decide (a<=b)))
  |.gtr=>some (True,.bool (decide (b<a)))
  |.geq=>some (True,.bool (decide (b<=a)))
  |_=>none
  else none
 |.string a,.string b=>match op with
  |.add=>some ((a.size+b.size:Nat)<=9223372036854775807,.string (a++b))
  |.eql=>some (True,.bool (decide (a.data.toList=b.data.toList)))
  |.neq=>some (True,.bool (!decide (a.data.toList=b.data.toList)))
  |.lss=>some (True,.bool (Op.bytesLess a.data.toList b.data.toList))
  |_=>none
 |_,_=>none
def toList_eq(s:ByteArray):s.toList=s.data.toList:=by
 exact ByteArray.toList_eq s
theorem PP{x y:Value}(h:YT op x y=some (c,z))(e:c):(binOp op t x y).run P w=.ok z w/\z.oneCell'=true:=by
 unfold YT at h;split at h
 .rename_i k a k' b
  split at h
  .rename_i r u
   cases h;obtain⟨J,E,_⟩:=Uf (P:=P) (w:=w) (k':=k') (t:=t) u e;exact⟨J,E⟩
  split at h
  .rename_i B;subst B
   split at h<;>simp only[Option.some.injEq,Prod.mk.injEq,reduceCtorEq]at h<;>obtain⟨rfl,rfl⟩:=h<;>refine⟨?_,rfl⟩
   all_goals (first|(simp[binOp,Op.intBits,YP];done)|(simp[binOp,Op.intArith];done)|(simp[binOp,Op.intCmp];done)|(simp[binOp,Op.intDiv,e];done)|skip)
   .simp[binOp,Op.intCmp];rfl
   .simp[binOp,Op.intCmp,bne];rfl
  .cases h
 .rename_i a b
  split at h<;>simp only[Option.some.injEq,Prod.mk.injEq,reduceCtorEq]at h<;>obtain⟨rfl,rfl⟩:=h<;>refine⟨?_,rfl⟩
  .have A:¬ (IntKind.i64.max<((a.size:Int)+(b.size:Int))):=by
    have:IntKind.i64.max=9223372036854775807:=by decide
    rw[this];omega
   simp[binOp,Op.stringOp,A];omega
  .simp[binOp,Op.stringOp,toList_eq];rw[Bool.eq_iff_iff];simp
  .simp[binOp,Op.stringOp,toList_eq];rw[Bool.eq_iff_iff];simp
  .simp[binOp,Op.stringOp,toList_eq]
 .cases h
def HQ(P:Program)(op:BinOp)(t:TypeId)(x y:Operand)(B A:V)(z:V):Prop:=
 ∀(w:World) (D:Nat->Prop) (R:V->Value->Prop) (cx e:Value),Rel D w R B cx noF->Rel D w R A e noF->
  ∃u,(do eqGuard op t x y cx e;binOp op t cx e:Sem Value).run P w=.ok u w/\Rel D w R z u noF
def Qo(P:Program)(op:BinOp)(t:TypeId)(x y:Operand)(u e:V)(K:V->Prop):Prop:=
 match u,e with
 |.c a,.c b=>match YT op a b with
  |some (c,z)=>c/\K (.c z)
  |none=>∃z,HQ P op t x y u e z/\AL u=false/\AL e=false/\K z
 |_,_=>∃z,HQ P op t x y u e z/\AL u=false/\AL e=false/\K z
theorem J3{a b:Value}(h:YT op a b≠none):(eqGuard op t x y a b).run P w=.ok () w:=by
 unfold YT at h;split at h
 .simp[eqGuard]
 .simp[eqGuard]
 grind
theorem Qn(wr:BG σ w D ρ F){yt:TypeId}{J E:V}(ho:o.op=.binOp op t x y yt)(A:OpR σ w D ρ F J (a.eval x))(u:OpR σ w D ρ F E (a.eval y))(h:Qo P op t x y J E K):∃r,K r/\Aw P o a w σ D ρ r:=by
 obtain⟨fx,A,_⟩:=A;obtain⟨fy,u,_⟩:=u;have B:(∃z,HQ P op t x y J E z/\AL J=false/\AL E=false/\K z)->∃r,K r/\Aw P o a w σ D ρ r:=by
  rintro ⟨z,U,h1,h2,Z⟩
  have e1:=A6 (AE _ _ _ h1 A);have e2:=A6 (AE _ _ _ h2 u);subst e1;subst e2;obtain⟨cz,e,W⟩:=U w D _ _ _ A u;refine⟨z,Z,Aw.pure wr ?_ W⟩;unfold execOp;rw[ho];simp only[Sem.run_bind,e,Result.andThen];rfl
 unfold Qo at h;split at h
 .rename_i ax ay
  split at h
  .rename_i c z U
   obtain⟨hc,Z⟩:=h;obtain⟨e,h1⟩:=PP (P:=P) (w:=w) (t:=t) U hc;refine⟨_,Z,Aw.pure wr ?_ ⟨rfl,h1,λ_ h=>h⟩⟩
   have e1:a.eval x=ax:=A.1;have e2:=u.1;unfold execOp;rw[ho];have:=J3 (P:=P) (w:=w) (op:=op) (t:=t) (x:=x) (y:=y) (a:=ax) (b:=ay) (by rw[U];simp)
   simp_all
  .exact B h
 .exact B h
def qUn(op:UnOp)(x:V)(K:V->Prop):Prop:=
 match op,x with
 |.not,.c (.bool b)=>K (.c (.bool (!b)))
 |.neg,.c (.int k n)=>K (.c (.int k (k.wrap (0-n))))
 |_,_=>False
theorem Va(wr:BG σ w D ρ F){op:UnOp}(u:o.op=.unOp op t x)(A:OpR σ w D ρ F v (a.eval x))(h:qUn op v K):∃r,K r/\Aw P o a w σ D ρ r:=by
 unfold qUn at h;obtain⟨fp,e,_⟩:=A;split at h
 .exact⟨_,h,Aw.pure wr (by unfold execOp;rw[u];simp[Op.unary,e.1]) ⟨rfl,rfl,λ_ h=>h⟩⟩
 .exact⟨_,h,Aw.pure wr (by unfold execOp;rw[u];simp[Op.unary,e.1,Op.intArith]) ⟨rfl,rfl,λ_ h=>h⟩⟩
 grind
inductive CvI where
 |int (k:IntKind)
 |string
 |bytes
 |other
def cvI(P:Program)(s d:TypeId):CvI:=
 match P.underlying s,P.underlying d with
 |some _,some (.int k)=>.int k
 |some .string,some .string=>.string
 |some (.slice e),some .string=>match P.underlying e with
  |some (.int .u8)=>.bytes
  |_=>.other
 |_,_=>.other
def Aax(f:Nat->V):Nat->Option (List Int)
 |0=>some []
 |n+1=>match Aax f n,f n with
  |some l,.c (.int .u8 k)=>some (l++[k])
  |_,_=>none
theorem Ma{f:Nat->V}:∀{n:Nat}{l:List Int},Aax f n=some l->l.length=n/\∀i,i<n->f i=.c (.int .u8 (l.getD i 0))
 |0,l,h=>by cases h;grind
 |n+1,l,h=>by
  unfold Aax at h;split at h
  .rename_i u k e A
   cases h;obtain⟨g1,g2⟩:=Ma e
   grind
  grind
def bytV(σ:List V):V->Option (List Int)
 |.nd true _ 1 n f=>Aax (λi=>f i 0) n
 |.rs id p off len=>match sub p (σ.getD id .dead)with
  |.nd true true 1 n f=>if off+len<=n then Aax (λi=>f (off+i) 0) len else none
  |_=>none
 |_=>none
def Aaw(P:Program)(s d:TypeId)(u:V)(z:V):Prop:=
 ∀(w:World) (D:Nat->Prop) (R:V->Value->Prop) (cx:Value),Rel D w R u cx noF->∃e,(convert s d cx).run P w=.ok e w/\Rel D w R z e noF
theorem KG(w:World)(u dst e:TypeId)(hs:P.underlying u=some (.slice e))(A:P.underlying e=some (.int .u8))(hd:P.underlying dst=some .string)(ad:Option Addr)(c:Nat):
  (convert u dst (.slice ad 0 c)).run P w=.ok (.string (strOfNums [])) w:=by
 cases ad with
 |none=>rw[run_convert_bytes_nil w u e hs A 0 c dst hd];rfl
 |some a=>
  have B:(loadCells a 0).run P w=.ok #[] w:=by
   rfl
  rw[run_convert_bytes_string w u dst e _ 0 c hs A hd,run_bytesToString w _ 0 c [] (by rfl)]
  rfl
theorem Wf(wr:BG σ w D ρ F){e:TypeId}{v:V}{cv:Value}{fp:Nat->Prop}{l:List Int}(hs:P.underlying s=some (.slice e))(he:P.underlying e=some (.int .u8))(hd:P.underlying d=some .string)
  (hr:Rel D w (Au σ ρ w) v cv fp) (A:bytV σ v=some l):(convert s d cv).run P w=.ok (.string (strOfNums l)) w:=by
 have node:∀{own:Bool}{n:Nat}{f:Nat->Nat->V}{b o cap:Nat}{off len:Nat},(∀i k,i<n->k<1->∃x,w.cell? ⟨b,o+i*1+k,none⟩=some x/\∃fp,Rel D w noR (f i k) x fp)->off+len<=n->Aax (λi=>f (off+i) 0) len=some l->
   ∀B,(convert s d (.slice (some ⟨b,o+off*1,none⟩) len B)).run P w=.ok (.string (strOfNums l)) w:=by
  intro own n f b o cap off len hc W hu B;obtain⟨g1,g2⟩:=Ma hu;refine run_convert_bytes_arg w s e hs he b (o+off*1) len B l g1 (λi Z=>?_) d hd
  obtain⟨x,E,fp,u⟩:=hc (off+i) 0 (by omega) (by omega)
  rw[g2 i Z]at u;rw[<-u.1];have:o+(off+i)*1+0=o+off*1+i:=by omega
  rw[this]at E;exact E
 unfold bytV at A;split at A
 .rename_i own n f
  rcases hr with⟨h0,_,hn,_⟩|⟨b,o,cap,F0,rfl,_,_,_,hc,_⟩
  .obtain⟨ad,rfl⟩:=C2 hn
   subst h0;cases A;exact KG w s d e hs he hd ad 0
  .have:=node (own:=own) (cap:=cap) (off:=0) (len:=n) (λi k Z hk=>by obtain⟨x,E,u⟩:=hc i k Z hk;exact⟨x,E,_,u⟩) (by omega) (by simpa using A) cap
   simpa [AC]using this
 .rename_i id p off len
  split at A
  case h_2=>cases A
  rename_i n f J;split at A
  case isFalse=>cases A
  rename_i W;obtain⟨⟨hid,sz,n',f',cn,ha,hle',hcv⟩,_⟩:=hr;have U:=At.sub ha;rw[J]at U;cases U;obtain⟨fp1,hr1,_⟩:=DF (w':=w) p _ _ _ _ _ (wr.rel id hid) (λb hb h'=>wr.dD id b h' hb) ha
  rcases hcv with⟨b,o,cap,rfl,rfl⟩|⟨h0,ad,rfl,_⟩
  .rcases hr1 with⟨_,_,hn,_⟩|⟨b2,o2,cap2,F2,hcv2,_,_,_,hc,_⟩
   .exact absurd hn BP
   .obtain⟨rfl,rfl,_⟩:=Az hcv2
    exact node (own:=true) (cap:=cap) (off:=off) (len:=len) (λi k Z hk=>by obtain⟨x,E,u⟩:=hc i k Z hk;exact⟨x,E,_,u⟩) W A (cap-off)
  .subst h0
   cases A;exact KG w s d e hs he hd _ 0
 .cases A
def Ql(P:Program)(σ:List V)(s d:TypeId)(x:V)(K:V->Prop):Prop:=
 match cvI P s d,x with
 |.int k,.c (.int _ n)=>K (.c (.int k (k.wrap n)))
 |.string,.c (.string b)=>K (.c (.string b))
 |.bytes,x=>match bytV σ x with
  |some l=>K (.c (.string (strOfNums l)))
  |none=>False
 |_,_=>∃z,Aaw P s d x z/\AL x=false/\K z
theorem N5(wr:BG σ w D ρ F)(E:o.op=.convert s d x)(Z:OpR σ w D ρ F v (a.eval x))(h:Ql P σ s d v K):∃r,K r/\Aw P o a w σ D ρ r:=by
 obtain⟨fp,B,_⟩:=Z;unfold Ql at h;split at h
 .rename_i k k' n u
  unfold cvI at u;split at u<;>try (cases u;done)
  case h_3=>split at u<;>cases u
  rename_i d' U hs hd;cases u;exact⟨_,h,Aw.pure wr (by unfold execOp;rw[E];simp[convert,run_underlying hs,run_underlying hd,B.1,Conv.intToInt]) ⟨rfl,rfl,λ_ h=>h⟩⟩
 .rename_i b u
  unfold cvI at u;split at u<;>try (cases u;done)
  case h_3=>split at u<;>cases u
  rename_i hs hd;exact⟨_,h,Aw.pure wr (by unfold execOp;rw[E];simp[convert,run_underlying hs,run_underlying hd,B.1]) ⟨rfl,rfl,λ_ h=>h⟩⟩
 .rename_i u
  split at h
  case h_2=>exact h.elim
  rename_i l hl;have hu:∃e,P.underlying s=some (.slice e)/\P.underlying e=some (.int .u8)/\P.underlying d=some .string:=by
   unfold cvI at u;split at u<;>try (cases u;done)
   rename_i e hs hd;split at u
   .exact⟨e,hs,by assumption,hd⟩
   .cases u
  obtain⟨e,hs,he,hd⟩:=hu;refine⟨_,h,Aw.pure wr ?_ ⟨rfl,rfl,λ_ h=>h⟩⟩
  unfold execOp;rw[E];have:(convert s d (a.eval x)).run P w=.ok (.string (strOfNums l)) w:=Wf wr hs he hd B hl;simp[this]
 .obtain⟨z,W,h1,hK⟩:=h
  have e1:=A6 (AE _ _ _ h1 B);subst e1;obtain⟨cz,A,J⟩:=W w D _ _ B;exact⟨z,hK,Aw.pure wr (by unfold execOp;rw[E];simp[A]) J⟩
def Cw(x:V)(i:Nat)(K:V->Prop):Prop:=
 match x with
 |.many .tu n f=>i<n/\AL (f i)=false/\K (f i)
 |_=>False
theorem JZ(wr:BG σ w D ρ F){i:Nat}(U:o.op=.extract x i)(E:OpR σ w D ρ F v (a.eval x))(h:Cw v i K):∃r,K r/\Aw P o a w σ D ρ r:=by
 unfold Cw at h;obtain⟨fp,u,_⟩:=E;split at h
 .obtain⟨B,J,Z⟩:=h
  obtain⟨cs,F',e,W,u,_,_⟩:=u;have e:a.eval x=.tuple cs:=e;have A:=u i B;have e1:=A6 (AE _ _ _ J A);rw[e1]at A;refine⟨_,Z,Aw.pure wr ?_ A⟩;unfold execOp;rw[U];simp[Instr.extract,e,W,B]
 grind
def qLen(x:V)(K:V->Prop):Prop:=
 match x with
 |.c (.string s)=>K (.c (.int .i64 s.size))
 |.c (.slice none 0 0)=>K (.c (.int .i64 0))
 |.nd true _ _ n _=>K (.c (.int .i64 n))
 |.rs _ _ _ len=>K (.c (.int .i64 len))
 |_=>False
inductive LenI where
 |string|slice|other
def L8(P:Program)(t:TypeId):LenI:=match P.underlying t with
 |some .string=>.string
 |some (.slice _)=>.slice
 |_=>.other
theorem Rel.sliceLen{R:V->Value->Prop}{own:Bool}{sz n:Nat}{f:Nat->Nat->V}(h:Rel D w R (.nd true own sz n f) cv fp):∃a cap,cv=.slice a n cap:=by
 rcases h with⟨rfl,_,e,_⟩|⟨b,o,cap,F,rfl,_⟩
 .obtain⟨a,rfl⟩:=C2 e
  simp
 .exact⟨_,_,rfl⟩
theorem Qk(wr:BG σ w D ρ F)(J:L8 P t=.string/\(∃s,v=.c (.string s))\/L8 P t=.slice/\¬ (∃s,v=.c (.string s)))(ho:o.op=.call {callee:=.builtin .len,args:=#[x],argTypes:=#[t]})(hv:OpR σ w D ρ F v (a.eval x))(h:qLen v K):∃r,K r/\Aw P o a w σ D ρ r:=by
 unfold qLen at h;obtain⟨fp,U,_⟩:=hv
 have E:∀z,(Builtin.len_ #[t] o.type #[a.eval x]).run P w=.ok z w->(execOp a.eval o).run P w=.ok (.value z) w:=by
  intro z hz;unfold execOp;rw[ho];simp[resolve,invoke,builtin,hz]
 have Z:L8 P t=.slice->∃e,P.underlying t=some (.slice e):=by
  intro h;unfold L8 at h;split at h<;>first|exact⟨_,‹_›⟩|cases h
 have W:L8 P t=.string->P.underlying t=some .string:=by
  intro h;unfold L8 at h;split at h<;>first|assumption|cases h
 have B:∀ad n cap,a.eval x=.slice ad n cap->L8 P t=.slice->(execOp a.eval o).run P w=.ok (.value (.int .i64 n)) w:=by
  intro ad n cap he A;obtain⟨e,hu⟩:=Z A;exact E _ (by simp[Builtin.len_,run_underlying hu,he,goInt])
 split at h
 .rename_i s
  have A:L8 P t=.string:=J.elim (λh=>h.1) λh=>absurd ⟨s,rfl⟩ h.2
  exact⟨_,h,Aw.pure wr (E _ (by simp[Builtin.len_,run_underlying (W A),U.1,goInt])) ⟨rfl,rfl,λ_ h=>h⟩⟩
 .have A:L8 P t=.slice:=J.elim (λh=>by obtain⟨_,s,hs⟩:=h;cases hs) λh=>h.1
  exact⟨_,h,Aw.pure wr (B _ _ _ U.1 A) ⟨rfl,rfl,λ_ h=>h⟩⟩
 .have A:L8 P t=.slice:=J.elim (λh=>by obtain⟨_,s,hs⟩:=h;cases hs) λh=>h.1
  obtain⟨ad,cap,he⟩:=Rel.sliceLen U;exact⟨_,h,Aw.pure wr (B _ _ _ he A) ⟨rfl,rfl,λ_ h=>h⟩⟩
 .have A:L8 P t=.slice:=J.elim (λh=>by obtain⟨_,s,hs⟩:=h;cases hs) λh=>h.1
  obtain⟨⟨hid,sz,n,f,cn,ha,hle,u⟩,_⟩:=U;rcases u with⟨b,o',cap,rfl,u⟩|⟨h0,ad,u,_⟩
  .exact⟨_,h,Aw.pure wr (B _ _ _ u A) ⟨rfl,rfl,λ_ h=>h⟩⟩
  .rename_i len
   subst h0;exact⟨_,h,Aw.pure wr (B _ _ _ u A) ⟨rfl,rfl,λ_ h=>h⟩⟩
 .exact h.elim
end ops
end Go.Ve

