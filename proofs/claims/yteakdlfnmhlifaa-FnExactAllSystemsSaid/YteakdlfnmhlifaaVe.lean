/- The quiet operations of the small machine: addresses, arithmetic, texts, parts. -/
import Derived.Test.YteakdlfnmhlifaaVb
import Derived.Laws.BytesArg
set_option linter.all false
namespace Go.Ve
variable{op:BinOp}{fp:Nat->Prop}{ix x y:Operand}{P:Program}{c:Prop}{d s t:TypeId}{v vi:V}{cv z:Value}
section ops
variable {P:Program}{o:Oper}{a:Act}{w:World}{σ:List V}{D:Nat->Prop}{ρ:Nat->Value}{F:Nat->Nat->Prop}{K:V->Prop}
def J0(A:Option (Nat×Nat))(σ:List V)(x:V)(K:V->Prop):Prop:=
 match A with
 |some (off,fs)=>match x with
  |.nd false false sz n f=>off+fs<=sz/\K (.nd false false fs n λi k=>f i (off+k))
  |.rp id p i k=>k+off<AW σ id p/\K (.rp id p i (k+off))
  |.many .bx n f=>(off+fs<=n/\(List.range fs).all (λk=>!AJ (f (off+k)))=true)/\K (.many .bx fs λk=>f (off+k))
  |_=>False
 |none=>False
theorem Oi(wr:Be σ w D ρ F){fi:Nat}(ho:o.op=.fieldAddr t x fi)(hv:OpR σ w D ρ F v (a.eval x))(h:J0 (VS P t fi) σ v K):∃r,K r/\Ap P o a w σ D ρ r:=by
 unfold J0 at h;obtain⟨fp,hr,hfD,hfF⟩:=hv;split at h
 case h_2=>exact h.elim
 rename_i off fs hfi;obtain⟨fss,f,i,hu,hf,Y,hi,his,hpos⟩:=Yj hfi
 have H:∀ad,a.eval x=.pointer (some ad)->(execOp a.eval o).run P w=.ok (.value (.pointer (some (ad.add off)))) w:=by
  intro ad U;have hne:¬ (fs=0):=by omega
  unfold execOp;rw[ho];simp[Instr.fieldAt,run_underlying hu,hf,U,Instr.sureAddr,fieldPlace,sizeOf,typeInfo,hi,his,hne,Y]
 split at h
 .rename_i sz n f
  obtain⟨A,hK⟩:=h;obtain⟨rfl,b,W,U,hc⟩:=Na hr;refine⟨_,hK,Ap.pure wr (H _ U) ?_⟩;rw[AZ rfl];refine .inr ⟨b,W+off,1,λ_ _=>noF,rfl,Nat.le_refl _,by unfold maxLen;omega,λ_=>rfl,?_,λ_=>⟨λ_=>(hc 0 (by omega)).1,λ_ _ _ _ _ h=>h,λ_ h=>h⟩,λh=>by cases h⟩
  intro i k hi0 B;obtain rfl:i=0:=by omega
  obtain⟨_,y,hy,hry⟩:=hc (off+k) (by omega)
  exact⟨y,by simpa [Nat.add_assoc]using hy,hry⟩
 .rename_i id p i' k'
  obtain⟨A,hK⟩:=h;obtain⟨⟨hid,s',sz,n,f,b,W,cap,ha,hi',hk',U⟩,_⟩:=hr;have hns:AW σ id p=sz:=by unfold AW;rw[<-At.sub ha]
  rw[hns]at A;refine⟨_,hK,Ap.pure wr (H _ U) ?_⟩;rw[AZ rfl];exact⟨⟨hid,s',sz,n,f,b,W,cap,ha,hi',A,by simp[Nat.add_assoc]⟩,λ_ h=>h⟩
 .rename_i n f
  obtain⟨⟨A,hto⟩,hK⟩:=h;obtain⟨b,W,U,hD,hc⟩:=H9 hr;refine⟨_,hK,Ap.pure wr (H _ U) ?_⟩;rw[AZ rfl]
  obtain⟨cs,hl,Z⟩:=BJ (n:=fs) (p:=λk x=>w.cell? ⟨b,W+off+k,none⟩=some x/\Rel D w (Ae σ ρ w) (f (off+k)) x noF) λk B=>by
   obtain⟨x,fq,h1,h2⟩:=hc (off+k) (by omega)
   exact⟨x,by rw[Nat.add_assoc];exact h1,A2 (AB _ _ _ (by simpa using aET.1 hto k (List.mem_range.2 B)) h2)▸h2⟩
  refine⟨cs.toArray,λ_=>noF,⟨b,W+off,rfl,λ_=>hD (by omega),λk B=>?_⟩,by simpa using hl,λk B=>?_,λ_ _ _ _ _ _ h=>h.elim,λb=>⟨λh=>h.elim,fun⟨_,_,h⟩=>h⟩⟩
  .have B:k<fs:=by simpa [hl]using B
   have:cs[k]? =some (cs.toArray.getD k undef):=by simp[hl,B]
   exact(Z k _ this).1
  .have:cs[k]? =some (cs.toArray.getD k undef):=by simp[hl,B]
   exact(Z k _ this).2
 .exact h.elim
def B1(A:Option SlI)(σ:List V)(x ix:V)(K:V->Prop):Prop:=
 match A with
 |some ⟨_,size,_,_⟩=>match x,ix with
  |.nd true false sz n f,.c (.int _ i)=>sz=size/\0<sz/\(0<=i/\i<n)/\K (.nd false false sz 1 λ_ k=>f i.toNat k)
  |.rs id p off len,.c (.int _ i)=>AW σ id p=size/\0<size/\(0<=i/\i<len)/\K (.rp id p (off+i.toNat) 0)
  |_,_=>False
 |none=>False
theorem Jb(wr:Be σ w D ρ F)(ho:o.op=.indexAddr t x ix)(hv:OpR σ w D ρ F v (a.eval x))(hvi:OpR σ w D ρ F vi (a.eval ix))(h:B1 (slI P t) σ v vi K):∃r,K r/\Ap P o a w σ D ρ r:=by
 unfold B1 at h;obtain⟨fp,hr,hfD,hfF⟩:=hv;obtain⟨_,B,_⟩:=hvi;split at h
 case h_2=>exact h.elim
 rename_i e size bytes zero hsi;obtain⟨hu,i0,z,Y,hz,U,_,_,_,_⟩:=D6 hsi;simp only at hu Y U
 have Z:∀ad len cap k i,a.eval x=.slice (some ad) len cap->a.eval ix=.int k i->0<=i->i<len->(execOp a.eval o).run P w=.ok (.value (.pointer (some (ad.add (i.toNat*size))))) w:=by
  intro ad len cap k i he he2 h1 h2;unfold execOp;rw[ho];simp[Instr.indexAt,run_underlying hu,he,he2,asIntOf,sizeOf,typeInfo,Y,U,h1,h2]
 split at h
 .rename_i sz n f k i
  obtain⟨rfl,hpos,⟨h1,h2⟩,hK⟩:=h;obtain⟨b,o',cap,A,hcap,hc⟩:=Kh hr (by omega)
  refine⟨_,hK,Ap.pure wr (Z ⟨b,o',none⟩ n cap k i (by simpa [Av]using A) B.1 h1 h2) ?_⟩
  rw[AZ rfl];have W:i.toNat<n:=by omega
  refine .inr ⟨b,o'+i.toNat*sz,1,λ_ _=>noF,rfl,Nat.le_refl _,by unfold maxLen;omega,λ_=>rfl,?_,λ_=>⟨λ_=>(hc _ 0 W (by omega)).1,λ_ _ _ _ _ h=>h,λ_ h=>h⟩,λh=>by cases h⟩
  intro j k0 hj hk;obtain rfl:j=0:=by omega
  obtain⟨_,y,hy,hry⟩:=hc i.toNat k0 W hk;exact⟨y,by simpa using hy,hry⟩
 .rename_i id p off len k i
  obtain⟨hns,hpos,⟨h1,h2⟩,hK⟩:=h;obtain⟨⟨hid,sz,n,f,cn,ha,hle,A⟩,_⟩:=hr;rcases A with⟨b,o',cap,rfl,A⟩|⟨h0,_⟩
  .have H:AW σ id p=sz:=by unfold AW;rw[<-At.sub ha]
   rw[H]at hns;subst hns;refine⟨_,hK,Ap.pure wr (Z _ len (cap-off) k i A B.1 h1 h2) ?_⟩;rw[AZ rfl];exact⟨⟨hid,true,sz,n,f,b,o',cap,ha,by omega,by omega,by simp[Nat.add_mul,Nat.add_assoc]⟩,λ_ h=>h⟩
  .omega
 .exact h.elim
def Q5(x ix:V)(K:V->Prop):Prop:=
 match x,ix with
 |.c (.string s),.c (.int _ i)=>(0<=i/\i<s.size)/\K (.c (.int .u8 (s.data.toList.getD i.toNat 0).toNat))
 |_,_=>False
theorem Oh(wr:Be σ w D ρ F)(U:P.underlying t=some .string)(Y:o.op=.index t x ix)(hv:OpR σ w D ρ F v (a.eval x))(A:OpR σ w D ρ F vi (a.eval ix))(h:Q5 v vi K):∃r,K r/\Ap P o a w σ D ρ r:=by
 unfold Q5 at h;obtain⟨fp,W,hfD,Z⟩:=hv;obtain⟨_,B,_⟩:=A;split at h<;>try (exact h.elim)
 rename_i s k i;obtain⟨⟨h1,h2⟩,hK⟩:=h;refine⟨_,hK,Ap.pure wr ?_ ⟨rfl,rfl,λ_ h=>h⟩⟩
 have h3:i.toNat<s.size:=by omega
 have H:=h3
 have:s[i.toNat]? =some (s.data.toList.getD i.toNat 0):=by
  rw[getElem?_pos s i.toNat h3];rw[gDE,gEE (by simpa using H)]
  rfl
 unfold execOp;rw[Y];simp[Instr.index,run_underlying U,W.1,B.1,asIntOf,h1,this]
def Ab8(x:V)(K:V->Prop):Prop:=
 match x with
 |.nd false false sz n f=>K (.nd false false sz n f)
 |.rp id p i k=>K (.rp id p i k)
 |.many .bx n f=>AJ (.many .bx n f)=false/\K (.many .bx n f)
 |_=>False
theorem Vq(wr:Be σ w D ρ F)(ho:o.op=.nilCheck x)(hv:OpR σ w D ρ F v (a.eval x))(h:Ab8 v K):∃r,K r/\Ap P o a w σ D ρ r:=by
 unfold Ab8 at h;obtain⟨fp,A,hfD,hfF⟩:=hv
 have B:∀ad,a.eval x=.pointer (some ad)->(execOp a.eval o).run P w=.ok (.value (a.eval x)) w:=by
  intro ad H;unfold execOp;simp_all
 split at h
 .obtain⟨_,b,U,H,hc⟩:=Na A
  exact⟨_,h,Ap.pure wr (B _ H) (A2 (AB _ _ _ rfl A)▸A)⟩
 .obtain⟨⟨Z,s',sz,n,f,b,U,cap,ha,hi',Y,H⟩,hf⟩:=A
  exact⟨_,h,Ap.pure wr (B _ H) ⟨⟨Z,s',sz,n,f,b,U,cap,ha,hi',Y,H⟩,λ_ h=>h⟩⟩
 .obtain⟨W,hK⟩:=h
  obtain⟨b,U,H,_⟩:=H9 A;exact⟨_,hK,Ap.pure wr (B _ H) (A2 (AB _ _ _ W A)▸A)⟩
 grind
def andI(k:IntKind)(a b:Int):Int:=k.wrap (BitVec.ofInt k.bits a&&&BitVec.ofInt k.bits b).toNat
def bncI(k:IntKind)(a b:Int):Int:=k.wrap (BitVec.ofInt k.bits a&&& ~~~BitVec.ofInt k.bits b).toNat
def Adi(k:IntKind)(a b:Int):Int:=k.wrap (a*2 ^ min b.toNat k.bits)
def AbW(k:IntKind)(a b:Int):Int:=a.fdiv (2 ^ min b.toNat k.bits)
def vsh(op:BinOp)(k:IntKind)(a b:Int):Option (Prop×Value):=match op with
 |.shl=>some (0<=b,.int k (Adi k a b))
 |.shr=>some (0<=b,.int k (AbW k a b))
 |_=>none
def Wp{w:World}{k k':IntKind}{a b:Int}(h:vsh op k a b=some (c,z))(B:c):(binOp op t (.int k a) (.int k' b)).run P w=.ok z w/\z.oneCell'=true/\(op=.shl\/op=.shr):=by
 unfold vsh at h;split at h<;>simp only[Option.some.injEq,reduceCtorEq]at h<;>obtain⟨rfl,rfl⟩:=h<;>refine⟨?_,rfl,by simp⟩
 .have A:¬b<0:=by omega
  simp[binOp,Op.shift,A,Adi]
 .have A:¬b<0:=by omega
  simp[binOp,Op.shift,A,AbW]
def Abw(op:BinOp)(x y:Value):Option (Prop×Value):=
 match x,y with
 |.int k a,.int k' b=>match vsh op k a b with
  |some r=>some r
  |none=>if k=k' then match op with
  |.and=>some (True,.int k (andI k a b))
  |.andNot=>some (True,.int k (bncI k a b))
  |.add=>some (True,.int k (k.wrap (a+b)))
  |.sub=>some (True,.int k (k.wrap (a-b)))
  |.mul=>some (True,.int k (k.wrap (a*b)))
  |.quo=>some (b≠0,.int k (k.wrap (a.tdiv b)))
  |.rem=>some (b≠0,.int k (a.tmod b))
  |.eql=>some (True,.bool (decide (a=b)))
  |.neq=>some (True,.bool (!decide (a=b)))
  |.lss=>some (True,.bool (decide (a<b)))
  |.leq=>some (True,.bool (decide (a<=b)))
  |.gtr=>some (True,.bool (decide (b<a)))
  |.geq=>some (True,.bool (decide (b<=a)))
  |_=>none
  else none
 |.string a,.string b=>match op with
  |.add=>some ((a.size+b.size:Nat)<=9223372036854775807,.string (a++b))
  |.eql=>some (True,.bool (decide (a.data.toList=b.data.toList)))
  |.neq=>some (True,.bool (!decide (a.data.toList=b.data.toList)))
  |.lss=>some (True,.bool (Op.bytesLess a.data.toList b.data.toList))
  |_=>none
 |_,_=>none
def toList_eq(s:ByteArray):s.toList=s.data.toList:=by
 exact ByteArray.toList_eq s
theorem U0{x y:Value}(h:Abw op x y=some (c,z))(A:c):(binOp op t x y).run P w=.ok z w/\z.oneCell'=true:=by
 unfold Abw at h;split at h
 .rename_i k a k' b
  split at h
  .rename_i r B
   cases h;obtain⟨Y,W,_⟩:=Wp (P:=P) (w:=w) (k':=k') (t:=t) B A;exact⟨Y,W⟩
  split at h
  .rename_i U;subst U
   split at h<;>simp only[Option.some.injEq,Prod.mk.injEq,reduceCtorEq]at h<;>obtain⟨rfl,rfl⟩:=h<;>refine⟨?_,rfl⟩
   all_goals (first|(simp[binOp,Op.intBits,andI,bncI];done)|(simp[binOp,Op.intArith];done)|(simp[binOp,Op.intCmp];done)|(simp[binOp,Op.intDiv,A];done)|skip)
   .simp[binOp,Op.intCmp];rfl
   .simp[binOp,Op.intCmp,bne];rfl
  .cases h
 .rename_i a b
  split at h<;>simp only[Option.some.injEq,Prod.mk.injEq,reduceCtorEq]at h<;>obtain⟨rfl,rfl⟩:=h<;>refine⟨?_,rfl⟩
  .have H:¬ (IntKind.i64.max<((a.size:Int)+(b.size:Int))):=by
    have:IntKind.i64.max=9223372036854775807:=by decide
    rw[this];omega
   simp[binOp,Op.stringOp,H];omega
  .simp[binOp,Op.stringOp,toList_eq];rw[Bool.eq_iff_iff];simp
  .simp[binOp,Op.stringOp,toList_eq];rw[Bool.eq_iff_iff];simp
  .simp[binOp,Op.stringOp,toList_eq]
 .cases h
def Ie(P:Program)(op:BinOp)(t:TypeId)(x y:Operand)(U H:V)(z:V):Prop:=
 ∀(w:World) (D:Nat->Prop) (R:V->Value->Prop) (cx A:Value),Rel D w R U cx noF->Rel D w R H A noF->
  ∃B,(do eqGuard op t x y cx A;binOp op t cx A:Sem Value).run P w=.ok B w/\Rel D w R z B noF
def Vx(P:Program)(op:BinOp)(t:TypeId)(x y:Operand)(B A:V)(K:V->Prop):Prop:=
 match B,A with
 |.c a,.c b=>match Abw op a b with
  |some (c,z)=>c/\K (.c z)
  |none=>∃z,Ie P op t x y B A z/\AJ B=false/\AJ A=false/\K z
 |_,_=>∃z,Ie P op t x y B A z/\AJ B=false/\AJ A=false/\K z
theorem K6{a b:Value}(h:Abw op a b≠none):(eqGuard op t x y a b).run P w=.ok () w:=by
 unfold Abw at h;split at h
 .simp[eqGuard]
 .simp[eqGuard]
 grind
theorem Vw(wr:Be σ w D ρ F){yt:TypeId}{Y W:V}(ho:o.op=.binOp op t x y yt)(H:OpR σ w D ρ F Y (a.eval x))(B:OpR σ w D ρ F W (a.eval y))(h:Vx P op t x y Y W K):∃r,K r/\Ap P o a w σ D ρ r:=by
 obtain⟨fx,H,_⟩:=H;obtain⟨fy,B,_⟩:=B;have U:(∃z,Ie P op t x y Y W z/\AJ Y=false/\AJ W=false/\K z)->∃r,K r/\Ap P o a w σ D ρ r:=by
  rintro ⟨z,Z,h1,h2,hK⟩
  have e1:=A2 (AB _ _ _ h1 H);have e2:=A2 (AB _ _ _ h2 B);subst e1;subst e2;obtain⟨cz,A,hrz⟩:=Z w D _ _ _ H B;refine⟨z,hK,Ap.pure wr ?_ hrz⟩;unfold execOp;rw[ho];simp only[Sem.run_bind,A,Result.andThen];rfl
 unfold Vx at h;split at h
 .rename_i ax ay
  split at h
  .rename_i c z Z
   obtain⟨hc,hK⟩:=h;obtain⟨A,h1⟩:=U0 (P:=P) (w:=w) (t:=t) Z hc;refine⟨_,hK,Ap.pure wr ?_ ⟨rfl,h1,λ_ h=>h⟩⟩
   have e1:a.eval x=ax:=H.1;have e2:=B.1;unfold execOp;rw[ho];have:=K6 (P:=P) (w:=w) (op:=op) (t:=t) (x:=x) (y:=y) (a:=ax) (b:=ay) (by rw[Z];simp)
   simp_all
  .exact U h
 .exact U h
def qUn(op:UnOp)(x:V)(K:V->Prop):Prop:=
 match op,x with
 |.not,.c (.bool b)=>K (.c (.bool (!b)))
 |.neg,.c (.int k n)=>K (.c (.int k (k.wrap (0-n))))
 |_,_=>False
theorem Xr(wr:Be σ w D ρ F){op:UnOp}(B:o.op=.unOp op t x)(hv:OpR σ w D ρ F v (a.eval x))(h:qUn op v K):∃r,K r/\Ap P o a w σ D ρ r:=by
 unfold qUn at h;obtain⟨fp,A,_⟩:=hv;split at h
 .exact⟨_,h,Ap.pure wr (by unfold execOp;rw[B];simp[Op.unary,A.1]) ⟨rfl,rfl,λ_ h=>h⟩⟩
 .exact⟨_,h,Ap.pure wr (by unfold execOp;rw[B];simp[Op.unary,A.1,Op.intArith]) ⟨rfl,rfl,λ_ h=>h⟩⟩
 grind
inductive CvI where
 |int (k:IntKind)
 |string
 |bytes
 |other
def cvI(P:Program)(s d:TypeId):CvI:=
 match P.underlying s,P.underlying d with
 |some _,some (.int k)=>.int k
 |some .string,some .string=>.string
 |some (.slice e),some .string=>match P.underlying e with
  |some (.int .u8)=>.bytes
  |_=>.other
 |_,_=>.other
def Adh(f:Nat->V):Nat->Option (List Int)
 |0=>some []
 |n+1=>match Adh f n,f n with
  |some l,.c (.int .u8 k)=>some (l++[k])
  |_,_=>none
theorem NH{f:Nat->V}:∀{n:Nat}{l:List Int},Adh f n=some l->l.length=n/\∀i,i<n->f i=.c (.int .u8 (l.getD i 0))
 |0,l,h=>by cases h;grind
 |n+1,l,h=>by
  unfold Adh at h;split at h
  .rename_i B k A H
   cases h;obtain⟨g1,g2⟩:=NH A
   grind
  grind
def bytV(σ:List V):V->Option (List Int)
 |.nd true _ 1 n f=>Adh (λi=>f i 0) n
 |.rs id p off len=>match sub p (σ.getD id .dead)with
  |.nd true true 1 n f=>if off+len<=n then Adh (λi=>f (off+i) 0) len else none
  |_=>none
 |_=>none
def Adg(P:Program)(s d:TypeId)(B:V)(z:V):Prop:=
 ∀(w:World) (D:Nat->Prop) (R:V->Value->Prop) (cx:Value),Rel D w R B cx noF->∃A,(convert s d cx).run P w=.ok A w/\Rel D w R z A noF
theorem LY(w:World)(A dst e:TypeId)(B:P.underlying A=some (.slice e))(H:P.underlying e=some (.int .u8))(hd:P.underlying dst=some .string)(ad:Option Addr)(c:Nat):
  (convert A dst (.slice ad 0 c)).run P w=.ok (.string (strOfNums [])) w:=by
 cases ad with
 |none=>rw[run_convert_bytes_nil w A e B H 0 c dst hd];rfl
 |some a=>
  have U:(loadCells a 0).run P w=.ok #[] w:=by
   rfl
  rw[run_convert_bytes_string w A dst e _ 0 c B H hd,run_bytesToString w _ 0 c [] (by rfl)]
  rfl
theorem Yz(wr:Be σ w D ρ F){e:TypeId}{v:V}{cv:Value}{fp:Nat->Prop}{l:List Int}(hs:P.underlying s=some (.slice e))(he:P.underlying e=some (.int .u8))(hd:P.underlying d=some .string)
  (hr:Rel D w (Ae σ ρ w) v cv fp) (B:bytV σ v=some l):(convert s d cv).run P w=.ok (.string (strOfNums l)) w:=by
 have node:∀{own:Bool}{n:Nat}{f:Nat->Nat->V}{b o cap:Nat}{off len:Nat},(∀i k,i<n->k<1->∃x,w.cell? ⟨b,o+i*1+k,none⟩=some x/\∃fp,Rel D w noR (f i k) x fp)->off+len<=n->Adh (λi=>f (off+i) 0) len=some l->
   ∀H,(convert s d (.slice (some ⟨b,o+off*1,none⟩) len H)).run P w=.ok (.string (strOfNums l)) w:=by
  intro own n f b o cap off len hc Z hu H;obtain⟨g1,g2⟩:=NH hu;refine run_convert_bytes_arg w s e hs he b (o+off*1) len H l g1 (λi hi=>?_) d hd
  obtain⟨x,U,fp,A⟩:=hc (off+i) 0 (by omega) (by omega)
  rw[g2 i hi]at A;rw[<-A.1];have:o+(off+i)*1+0=o+off*1+i:=by omega
  rw[this]at U;exact U
 unfold bytV at B;split at B
 .rename_i own n f
  rcases hr with⟨h0,_,hn,_⟩|⟨b,o,cap,F0,rfl,_,_,_,hc,_⟩
  .obtain⟨ad,rfl⟩:=B5 hn
   subst h0;cases B;exact LY w s d e hs he hd ad 0
  .have:=node (own:=own) (cap:=cap) (off:=0) (len:=n) (λi k hi hk=>by obtain⟨x,U,A⟩:=hc i k hi hk;exact⟨x,U,_,A⟩) (by omega) (by simpa using B) cap
   simpa [Av]using this
 .rename_i id p off len
  split at B
  case h_2=>cases B
  rename_i n f W;split at B
  case isFalse=>cases B
  rename_i Z;obtain⟨⟨hid,sz,n',f',cn,ha,hle',hcv⟩,_⟩:=hr;have Y:=At.sub ha;rw[W]at Y;cases Y;obtain⟨fp1,hr1,_⟩:=Ds (w':=w) p _ _ _ _ _ (wr.rel id hid) (λb hb h'=>wr.dD id b h' hb) ha
  rcases hcv with⟨b,o,cap,rfl,rfl⟩|⟨h0,ad,rfl,_⟩
  .rcases hr1 with⟨_,_,hn,_⟩|⟨b2,o2,cap2,F2,hcv2,_,_,_,hc,_⟩
   .exact absurd hn BF
   .obtain⟨rfl,rfl,_⟩:=Am hcv2
    exact node (own:=true) (cap:=cap) (off:=off) (len:=len) (λi k hi hk=>by obtain⟨x,U,A⟩:=hc i k hi hk;exact⟨x,U,_,A⟩) Z B (cap-off)
  .subst h0
   cases B;exact LY w s d e hs he hd _ 0
 .cases B
def Vu(P:Program)(σ:List V)(s d:TypeId)(x:V)(K:V->Prop):Prop:=
 match cvI P s d,x with
 |.int k,.c (.int _ n)=>K (.c (.int k (k.wrap n)))
 |.string,.c (.string b)=>K (.c (.string b))
 |.bytes,x=>match bytV σ x with
  |some l=>K (.c (.string (strOfNums l)))
  |none=>False
 |_,_=>∃z,Adg P s d x z/\AJ x=false/\K z
theorem PP(wr:Be σ w D ρ F)(W:o.op=.convert s d x)(hv:OpR σ w D ρ F v (a.eval x))(h:Vu P σ s d v K):∃r,K r/\Ap P o a w σ D ρ r:=by
 obtain⟨fp,U,_⟩:=hv;unfold Vu at h;split at h
 .rename_i k k' n A
  unfold cvI at A;split at A<;>try (cases A;done)
  case h_3=>split at A<;>cases A
  rename_i d' Z B hd;cases A;exact⟨_,h,Ap.pure wr (by unfold execOp;rw[W];simp[convert,run_underlying B,run_underlying hd,U.1,Conv.intToInt]) ⟨rfl,rfl,λ_ h=>h⟩⟩
 .rename_i b A
  unfold cvI at A;split at A<;>try (cases A;done)
  case h_3=>split at A<;>cases A
  rename_i B hd;exact⟨_,h,Ap.pure wr (by unfold execOp;rw[W];simp[convert,run_underlying B,run_underlying hd,U.1]) ⟨rfl,rfl,λ_ h=>h⟩⟩
 .rename_i A
  split at h
  case h_2=>exact h.elim
  rename_i l hl;have hu:∃e,P.underlying s=some (.slice e)/\P.underlying e=some (.int .u8)/\P.underlying d=some .string:=by
   unfold cvI at A;split at A<;>try (cases A;done)
   rename_i e B hd;split at A
   .exact⟨e,B,by assumption,hd⟩
   .cases A
  obtain⟨e,B,he,hd⟩:=hu;refine⟨_,h,Ap.pure wr ?_ ⟨rfl,rfl,λ_ h=>h⟩⟩
  unfold execOp;rw[W];have:(convert s d (a.eval x)).run P w=.ok (.string (strOfNums l)) w:=Yz wr B he hd U hl;simp[this]
 .obtain⟨z,hz,h1,hK⟩:=h
  have e1:=A2 (AB _ _ _ h1 U);subst e1;obtain⟨cz,H,Y⟩:=hz w D _ _ U;exact⟨z,hK,Ap.pure wr (by unfold execOp;rw[W];simp[H]) Y⟩
def Cs(x:V)(i:Nat)(K:V->Prop):Prop:=
 match x with
 |.many .tu n f=>i<n/\AJ (f i)=false/\K (f i)
 |_=>False
theorem K2(wr:Be σ w D ρ F){i:Nat}(W:o.op=.extract x i)(hv:OpR σ w D ρ F v (a.eval x))(h:Cs v i K):∃r,K r/\Ap P o a w σ D ρ r:=by
 unfold Cs at h;obtain⟨fp,B,_⟩:=hv;split at h
 .obtain⟨hi,U,Z⟩:=h
  obtain⟨cs,F',A,Y,B,_,_⟩:=B;have A:a.eval x=.tuple cs:=A;have H:=B i hi;have e1:=A2 (AB _ _ _ U H);rw[e1]at H;refine⟨_,Z,Ap.pure wr ?_ H⟩;unfold execOp;rw[W];simp[Instr.extract,A,Y,hi]
 grind
def qLen(x:V)(K:V->Prop):Prop:=
 match x with
 |.c (.string s)=>K (.c (.int .i64 s.size))
 |.c (.slice none 0 0)=>K (.c (.int .i64 0))
 |.nd true _ _ n _=>K (.c (.int .i64 n))
 |.rs _ _ _ len=>K (.c (.int .i64 len))
 |_=>False
inductive LenI where
 |string|slice|other
def ND(P:Program)(t:TypeId):LenI:=match P.underlying t with
 |some .string=>.string
 |some (.slice _)=>.slice
 |_=>.other
theorem Rel.sliceLen{R:V->Value->Prop}{own:Bool}{sz n:Nat}{f:Nat->Nat->V}(h:Rel D w R (.nd true own sz n f) cv fp):∃a cap,cv=.slice a n cap:=by
 rcases h with⟨rfl,_,A,_⟩|⟨b,o,cap,F,rfl,_⟩
 .obtain⟨a,rfl⟩:=B5 A
  simp
 .exact⟨_,_,rfl⟩
theorem Vt(wr:Be σ w D ρ F)(Y:ND P t=.string/\(∃s,v=.c (.string s))\/ND P t=.slice/\¬ (∃s,v=.c (.string s)))(ho:o.op=.call {callee:=.builtin .len,args:=#[x],argTypes:=#[t]})(hv:OpR σ w D ρ F v (a.eval x))(h:qLen v K):∃r,K r/\Ap P o a w σ D ρ r:=by
 unfold qLen at h;obtain⟨fp,Z,_⟩:=hv
 have W:∀z,(Builtin.len_ #[t] o.type #[a.eval x]).run P w=.ok z w->(execOp a.eval o).run P w=.ok (.value z) w:=by
  intro z hz;unfold execOp;rw[ho];simp[resolve,invoke,builtin,hz]
 have hsl:ND P t=.slice->∃e,P.underlying t=some (.slice e):=by
  intro h;unfold ND at h;split at h<;>first|exact⟨_,‹_›⟩|cases h
 have hst:ND P t=.string->P.underlying t=some .string:=by
  intro h;unfold ND at h;split at h<;>first|assumption|cases h
 have H:∀ad n cap,a.eval x=.slice ad n cap->ND P t=.slice->(execOp a.eval o).run P w=.ok (.value (.int .i64 n)) w:=by
  intro ad n cap he B;obtain⟨e,hu⟩:=hsl B;exact W _ (by simp[Builtin.len_,run_underlying hu,he,goInt])
 split at h
 .rename_i s
  have B:ND P t=.string:=Y.elim (λh=>h.1) λh=>absurd ⟨s,rfl⟩ h.2
  exact⟨_,h,Ap.pure wr (W _ (by simp[Builtin.len_,run_underlying (hst B),Z.1,goInt])) ⟨rfl,rfl,λ_ h=>h⟩⟩
 .have B:ND P t=.slice:=Y.elim (λh=>by obtain⟨_,s,U⟩:=h;cases U) λh=>h.1
  exact⟨_,h,Ap.pure wr (H _ _ _ Z.1 B) ⟨rfl,rfl,λ_ h=>h⟩⟩
 .have B:ND P t=.slice:=Y.elim (λh=>by obtain⟨_,s,U⟩:=h;cases U) λh=>h.1
  obtain⟨ad,cap,he⟩:=Rel.sliceLen Z;exact⟨_,h,Ap.pure wr (H _ _ _ he B) ⟨rfl,rfl,λ_ h=>h⟩⟩
 .have B:ND P t=.slice:=Y.elim (λh=>by obtain⟨_,s,U⟩:=h;cases U) λh=>h.1
  obtain⟨⟨hid,sz,n,f,cn,ha,hle,A⟩,_⟩:=Z;rcases A with⟨b,o',cap,rfl,A⟩|⟨h0,ad,A,_⟩
  .exact⟨_,h,Ap.pure wr (H _ _ _ A B) ⟨rfl,rfl,λ_ h=>h⟩⟩
  .rename_i len
   subst h0;exact⟨_,h,Ap.pure wr (H _ _ _ A B) ⟨rfl,rfl,λ_ h=>h⟩⟩
 .exact h.elim
end ops
end Go.Ve

