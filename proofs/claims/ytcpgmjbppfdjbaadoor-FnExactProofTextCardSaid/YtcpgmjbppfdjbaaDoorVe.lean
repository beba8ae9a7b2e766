/- The quiet operations of the small machine: addresses, arithmetic, texts, parts. -/
import Derived.Test.YtcpgmjbppfdjbaaDoorVb
import Derived.Laws.BytesArg
namespace Go.Ve
variable{op:BinOp}{fp:Nat->Prop}{ix x y:Operand}{P:Program}{c:Prop}{d s t:TypeId}{v vi:V}{cv z:Value}
section ops
variable {P:Program} {o:Oper} {a:Act} {w:World} {σ:List V} {D:Nat->Prop} {ρ:Nat->Value} {F:Nat->Nat->Prop} {K:V->Prop}
def Jp(fo:Option (Nat×Nat))(σ:List V)(x:V)(K:V->Prop):Prop:=
 match fo with
 |some (off,fs)=>match x with
  | .nd false false sz n f=>off+fs<=sz/\K (.nd false false fs n λi k=>f i (off+k))
  | .rp id p i k=>k+off<AS σ id p/\K (.rp id p i (k+off))
  | .many .bx n f=>(off+fs<=n/\(List.range fs).all (λk=>!AE (f (off+k)))=true)/\K (.many .bx fs λk=>f (off+k))
  |_=>False
 |none=>False
theorem M7(wr:Bj σ w D ρ F){fi:Nat}(ho:o.op= .fieldAddr t x fi)(hv:OpR σ w D ρ F v (a.eval x))(h:Jp (Uq P t fi) σ v K): ∃r,K r/\Ak P o a w σ D ρ r:=by
 unfold Jp at h;obtain⟨fp,hr,hfD,hfF⟩:=hv;split at h
 case h_2=>exact h.elim
 rename_i off fs hfi;obtain⟨fss,f,i,hu,hf,hoff,hi,his,hpos⟩:=Wx hfi
 have hex: ∀ad,a.eval x= .pointer (some ad)->(execOp a.eval o).run P w= .ok (.value (.pointer (some (ad.add off)))) w:=by
  intro ad he;have hne: ¬ (fs=0):=by omega
  unfold execOp;rw [ho];simp [Instr.fieldAt,run_underlying hu,hf,he,Instr.sureAddr,fieldPlace,sizeOf,typeInfo,hi,his,hne,hoff]
 split at h
 ·rename_i sz n f
  obtain⟨hsz,hK⟩:=h;obtain⟨rfl,b,o',he,hc⟩:=L6 hr;refine⟨_,hK,Ak.pure wr (hex _ he) ?_⟩;rw [AT rfl];refine .inr ⟨b,o'+off,1,λ_ _=>noF,rfl,Nat.le_refl _,by unfold maxLen;omega,λ_=>rfl,?_,λ_=>⟨λ_=>(hc 0 (by omega)).1,λ_ _ _ _ _ h=>h,λ_ h=>h⟩,λh=>by cases h⟩
  intro i k hi0 hk;obtain rfl:i=0:=by omega
  obtain⟨_,y,hy,hry⟩:=hc (off+k) (by omega)
  exact⟨y,by simpa [Nat.add_assoc]using hy,hry⟩
 ·rename_i id p i' k'
  obtain⟨hsz,hK⟩:=h;obtain⟨⟨hid,s',sz,n,f,b,o',cap,ha,hi',hk',he⟩,_⟩:=hr;have hns:AS σ id p=sz:=by unfold AS;rw [<-At.sub ha]
  rw [hns]at hsz;refine⟨_,hK,Ak.pure wr (hex _ he) ?_⟩;rw [AT rfl];exact⟨⟨hid,s',sz,n,f,b,o',cap,ha,hi',hsz,by simp [Nat.add_assoc]⟩,λ_ h=>h⟩
 ·rename_i n f
  obtain⟨⟨hsz,hto⟩,hK⟩:=h;obtain⟨b,o',he,hD,hc⟩:=Hy hr;refine⟨_,hK,Ak.pure wr (hex _ he) ?_⟩;rw [AT rfl]
  obtain⟨cs,hl,hcs⟩:=BC (n:=fs) (p:=λk x=>w.cell? ⟨b,o'+off+k,none⟩=some x/\Rel D w (Ag σ ρ w) (f (off+k)) x noF) λk hk=>by
   obtain⟨x,fq,h1,h2⟩:=hc (off+k) (by omega)
   exact⟨x,by rw [Nat.add_assoc];exact h1,AY (Au _ _ _ (by simpa using aET.1 hto k (List.mem_range.2 hk)) h2)▸h2⟩
  refine⟨cs.toArray,λ_=>noF,⟨b,o'+off,rfl,λ_=>hD (by omega),λk hk=>?_⟩,by simpa using hl,λk hk=>?_,λ_ _ _ _ _ _ h=>h.elim,λb=>⟨λh=>h.elim,fun⟨_,_,h⟩=>h⟩⟩
  ·have hk:k<fs:=by simpa [hl]using hk
   have:cs[k]? =some (cs.toArray.getD k undef):=by simp [hl,hk]
   exact(hcs k _ this).1
  ·have:cs[k]? =some (cs.toArray.getD k undef):=by simp [hl,hk]
   exact(hcs k _ this).2
 ·exact h.elim
def BS(si:Option SlI)(σ:List V)(x ix:V)(K:V->Prop):Prop:=
 match si with
 |some ⟨_,size,_,_⟩=>match x,ix with
  | .nd true false sz n f,.c (.int _ i)=>sz=size/\0<sz/\(0<=i/\i<n)/\K (.nd false false sz 1 λ_ k=>f i.toNat k)
  | .rs id p off len,.c (.int _ i)=>AS σ id p=size/\0<size/\(0<=i/\i<len)/\K (.rp id p (off+i.toNat) 0)
  |_,_=>False
 |none=>False
theorem IA(wr:Bj σ w D ρ F)(ho:o.op= .indexAddr t x ix)(hv:OpR σ w D ρ F v (a.eval x))(hvi:OpR σ w D ρ F vi (a.eval ix))(h:BS (slI P t) σ v vi K): ∃r,K r/\Ak P o a w σ D ρ r:=by
 unfold BS at h;obtain⟨fp,hr,hfD,hfF⟩:=hv;obtain⟨_,hri,_⟩:=hvi;split at h
 case h_2=>exact h.elim
 rename_i e size bytes zero hsi;obtain⟨hu,i0,z,hi0,hz,his,_,_,_,_⟩:=CB hsi;simp only at hu hi0 his
 have hex: ∀ad len cap k i,a.eval x= .slice (some ad) len cap->a.eval ix= .int k i->0<=i->i<len->(execOp a.eval o).run P w= .ok (.value (.pointer (some (ad.add (i.toNat*size))))) w:=by
  intro ad len cap k i he he2 h1 h2;unfold execOp;rw [ho];simp [Instr.indexAt,run_underlying hu,he,he2,asIntOf,sizeOf,typeInfo,hi0,his,h1,h2]
 split at h
 ·rename_i sz n f k i
  obtain⟨rfl,hpos,⟨h1,h2⟩,hK⟩:=h;obtain⟨b,o',cap,hcv,hcap,hc⟩:=JC hr (by omega)
  refine⟨_,hK,Ak.pure wr (hex ⟨b,o',none⟩ n cap k i (by simpa [As]using hcv) hri.1 h1 h2) ?_⟩
  rw [AT rfl];have hin:i.toNat<n:=by omega
  refine .inr ⟨b,o'+i.toNat*sz,1,λ_ _=>noF,rfl,Nat.le_refl _,by unfold maxLen;omega,λ_=>rfl,?_,λ_=>⟨λ_=>(hc _ 0 hin (by omega)).1,λ_ _ _ _ _ h=>h,λ_ h=>h⟩,λh=>by cases h⟩
  intro j k0 hj hk;obtain rfl:j=0:=by omega
  obtain⟨_,y,hy,hry⟩:=hc i.toNat k0 hin hk;exact⟨y,by simpa using hy,hry⟩
 ·rename_i id p off len k i
  obtain⟨hns,hpos,⟨h1,h2⟩,hK⟩:=h;obtain⟨⟨hid,sz,n,f,cn,ha,hle,hcv⟩,_⟩:=hr;rcases hcv with⟨b,o',cap,rfl,hcv⟩|⟨h0,_⟩
  ·have hns':AS σ id p=sz:=by unfold AS;rw [<-At.sub ha]
   rw [hns']at hns;subst hns;refine⟨_,hK,Ak.pure wr (hex _ len (cap-off) k i hcv hri.1 h1 h2) ?_⟩;rw [AT rfl];exact⟨⟨hid,true,sz,n,f,b,o',cap,ha,by omega,by omega,by simp [Nat.add_mul,Nat.add_assoc]⟩,λ_ h=>h⟩
  ·omega
 ·exact h.elim
def M6(x ix:V)(K:V->Prop):Prop:=
 match x,ix with
 | .c (.string s),.c (.int _ i)=>(0<=i/\i<s.size)/\K (.c (.int .u8 (s.data.toList.getD i.toNat 0).toNat))
 |_,_=>False
theorem M5(wr:Bj σ w D ρ F)(ht:P.underlying t=some .string)(ho:o.op= .index t x ix)(hv:OpR σ w D ρ F v (a.eval x))(hvi:OpR σ w D ρ F vi (a.eval ix))(h:M6 v vi K): ∃r,K r/\Ak P o a w σ D ρ r:=by
 unfold M6 at h;obtain⟨fp,hr,hfD,hfF⟩:=hv;obtain⟨_,hri,_⟩:=hvi;split at h<;>try (exact h.elim)
 rename_i s k i;obtain⟨⟨h1,h2⟩,hK⟩:=h;refine⟨_,hK,Ak.pure wr ?_ ⟨rfl,rfl,λ_ h=>h⟩⟩
 have h3:i.toNat<s.size:=by omega
 have h3':=h3
 have:s[i.toNat]? =some (s.data.toList.getD i.toNat 0):=by
  rw [getElem?_pos s i.toNat h3];rw [gDE,gEE (by simpa using h3')]
  rfl
 unfold execOp;rw [ho];simp [Instr.index,run_underlying ht,hr.1,hri.1,asIntOf,h1,this]
def ZN(x:V)(K:V->Prop):Prop:=
 match x with
 | .nd false false sz n f=>K (.nd false false sz n f)
 | .rp id p i k=>K (.rp id p i k)
 | .many .bx n f=>AE (.many .bx n f)=false/\K (.many .bx n f)
 |_=>False
theorem QZ(wr:Bj σ w D ρ F)(ho:o.op= .nilCheck x)(hv:OpR σ w D ρ F v (a.eval x))(h:ZN v K): ∃r,K r/\Ak P o a w σ D ρ r:=by
 unfold ZN at h;obtain⟨fp,hr,hfD,hfF⟩:=hv
 have hex: ∀ad,a.eval x= .pointer (some ad)->(execOp a.eval o).run P w= .ok (.value (a.eval x)) w:=by
  intro ad he;unfold execOp;simp_all
 split at h
 ·obtain⟨_,b,o',he,hc⟩:=L6 hr
  exact⟨_,h,Ak.pure wr (hex _ he) (AY (Au _ _ _ rfl hr)▸hr)⟩
 ·obtain⟨⟨hid,s',sz,n,f,b,o',cap,ha,hi',hk',he⟩,hf⟩:=hr
  exact⟨_,h,Ak.pure wr (hex _ he) ⟨⟨hid,s',sz,n,f,b,o',cap,ha,hi',hk',he⟩,λ_ h=>h⟩⟩
 ·obtain⟨hto,hK⟩:=h
  obtain⟨b,o',he,_⟩:=Hy hr;exact⟨_,hK,Ak.pure wr (hex _ he) (AY (Au _ _ _ hto hr)▸hr)⟩
 grind
def andI(k:IntKind)(a b:Int):Int:=k.wrap (BitVec.ofInt k.bits a&&&BitVec.ofInt k.bits b).toNat
def shlI(k:IntKind)(a b:Int):Int:=k.wrap (a*2 ^ min b.toNat k.bits)
def shrI(k:IntKind)(a b:Int):Int:=a.fdiv (2 ^ min b.toNat k.bits)
def vsh(op:BinOp)(k:IntKind)(a b:Int):Option (Prop×Value):=match op with
 | .shl=>some (0<=b,.int k (shlI k a b))
 | .shr=>some (0<=b,.int k (shrI k a b))
 |_=>none
theorem UQ{w:World}{k k':IntKind}{a b:Int}(h:vsh op k a b=some (c,z))(hc:c):(binOp op t (.int k a) (.int k' b)).run P w= .ok z w/\z.oneCell'=true/\(op= .shl\/op= .shr):=by
 unfold vsh at h;split at h<;>simp only [Option.some.injEq,reduceCtorEq]at h<;>obtain⟨rfl,rfl⟩:=h<;>refine⟨?_,rfl,by simp⟩
 ·have hn: ¬b<0:=by omega
  simp [binOp,Op.shift,hn,shlI]
 ·have hn: ¬b<0:=by omega
  simp [binOp,Op.shift,hn,shrI]
def Zi(op:BinOp)(x y:Value):Option (Prop×Value):=
 match x,y with
 | .int k a,.int k' b=>match vsh op k a b with
  |some r=>some r
  |none=>if k=k' then match op with
  | .and=>some (True,.int k (andI k a b))
  | .add=>some (True,.int k (k.wrap (a+b)))
  | .sub=>some (True,.int k (k.wrap (a-b)))
  | .mul=>some (True,.int k (k.wrap (a*b)))
  | .quo=>some (b≠0,.int k (k.wrap (a.tdiv b)))
  | .rem=>some (b≠0,.int k (a.tmod b))
  | .eql=>some (True,.bool (decide (a=b)))
  | .neq=>some (True,.bool (!decide (a=b)))
  | .lss=>some (True,.bool (decide (a<b)))
  | .leq=>some (True,.bool (decide (a<=b)))
  | .gtr=>some (True,.bool (decide (b<a)))
  | .geq=>some (True,.bool (decide (b<=a)))
  |_=>none
  else none
 | .string a,.string b=>match op with
  | .add=>some ((a.size+b.size:Nat)<=9223372036854775807,.string (a++b))
  | .eql=>some (True,.bool (decide (a.data.toList=b.data.toList)))
  | .neq=>some (True,.bool (!decide (a.data.toList=b.data.toList)))
  | .lss=>some (True,.bool (Op.bytesLess a.data.toList b.data.toList))
  |_=>none
 |_,_=>none
theorem toList_eq(s:ByteArray):s.toList=s.data.toList:=by
 exact ByteArray.toList_eq s
theorem Qs{x y:Value}(h:Zi op x y=some (c,z))(hc:c):(binOp op t x y).run P w= .ok z w/\z.oneCell'=true:=by
 unfold Zi at h;split at h
 ·rename_i k a k' b
  split at h
  ·rename_i r hr
   cases h;obtain⟨h1,h2,_⟩:=UQ (P:=P) (w:=w) (k':=k') (t:=t) hr hc;exact⟨h1,h2⟩
  split at h
  ·rename_i hk;subst hk
   split at h<;>simp only [Option.some.injEq,Prod.mk.injEq,reduceCtorEq]at h<;>obtain⟨rfl,rfl⟩:=h<;>refine⟨?_,rfl⟩
   all_goals (first|(simp [binOp,Op.intBits,andI];done)|(simp [binOp,Op.intArith];done)|(simp [binOp,Op.intCmp];done)|(simp [binOp,Op.intDiv,hc];done)|skip)
   ·simp [binOp,Op.intCmp];rfl
   ·simp [binOp,Op.intCmp,bne];rfl
  ·cases h
 ·rename_i a b
  split at h<;>simp only [Option.some.injEq,Prod.mk.injEq,reduceCtorEq]at h<;>obtain⟨rfl,rfl⟩:=h<;>refine⟨?_,rfl⟩
  ·have hn: ¬ (IntKind.i64.max<((a.size:Int)+(b.size:Int))):=by
    have:IntKind.i64.max=9223372036854775807:=by decide
    rw [this];omega
   simp [binOp,Op.stringOp,hn];omega
  ·simp [binOp,Op.stringOp,toList_eq];rw [Bool.eq_iff_iff];simp
  ·simp [binOp,Op.stringOp,toList_eq];rw [Bool.eq_iff_iff];simp
  ·simp [binOp,Op.stringOp,toList_eq]
 ·cases h
def HD(P:Program)(op:BinOp)(t:TypeId)(x y:Operand)(vx vy:V)(z:V):Prop:=
 ∀ (w:World) (D:Nat->Prop) (R:V->Value->Prop) (cx cy:Value),Rel D w R vx cx noF->Rel D w R vy cy noF->
  ∃cz,(do eqGuard op t x y cx cy;binOp op t cx cy:Sem Value).run P w= .ok cz w/\Rel D w R z cz noF
def Q6(P:Program)(op:BinOp)(t:TypeId)(x y:Operand)(vx vy:V)(K:V->Prop):Prop:=
 match vx,vy with
 | .c a,.c b=>match Zi op a b with
  |some (c,z)=>c/\K (.c z)
  |none=>∃z,HD P op t x y vx vy z/\AE vx=false/\AE vy=false/\K z
 |_,_=>∃z,HD P op t x y vx vy z/\AE vx=false/\AE vy=false/\K z
theorem Kd{a b:Value}(h:Zi op a b≠none):(eqGuard op t x y a b).run P w= .ok () w:=by
 unfold Zi at h;split at h
 ·simp [eqGuard]
 ·simp [eqGuard]
 grind
theorem Q5(wr:Bj σ w D ρ F){yt:TypeId}{vx vy:V}(ho:o.op= .binOp op t x y yt)(hx:OpR σ w D ρ F vx (a.eval x))(hy:OpR σ w D ρ F vy (a.eval y))(h:Q6 P op t x y vx vy K): ∃r,K r/\Ak P o a w σ D ρ r:=by
 obtain⟨fx,hx,_⟩:=hx;obtain⟨fy,hy,_⟩:=hy;have gen:(∃z,HD P op t x y vx vy z/\AE vx=false/\AE vy=false/\K z)->∃r,K r/\Ak P o a w σ D ρ r:=by
  rintro ⟨z,hz,h1,h2,hK⟩
  have e1:=AY (Au _ _ _ h1 hx);have e2:=AY (Au _ _ _ h2 hy);subst e1;subst e2;obtain⟨cz,hrun,hrz⟩:=hz w D _ _ _ hx hy;refine⟨z,hK,Ak.pure wr ?_ hrz⟩;unfold execOp;rw [ho];simp only [Sem.run_bind,hrun,Result.andThen];rfl
 unfold Q6 at h;split at h
 ·rename_i ax ay
  split at h
  ·rename_i c z hz
   obtain⟨hc,hK⟩:=h;obtain⟨hrun,h1⟩:=Qs (P:=P) (w:=w) (t:=t) hz hc;refine⟨_,hK,Ak.pure wr ?_ ⟨rfl,h1,λ_ h=>h⟩⟩
   have e1:a.eval x=ax:=hx.1;have e2:=hy.1;unfold execOp;rw [ho];have:=Kd (P:=P) (w:=w) (op:=op) (t:=t) (x:=x) (y:=y) (a:=ax) (b:=ay) (by rw [hz];simp)
   simp_all
  ·exact gen h
 ·exact gen h
def qUn(op:UnOp)(x:V)(K:V->Prop):Prop:=
 match op,x with
 | .not,.c (.bool b)=>K (.c (.bool (!b)))
 | .neg,.c (.int k n)=>K (.c (.int k (k.wrap (0-n))))
 |_,_=>False
theorem VO(wr:Bj σ w D ρ F){op:UnOp}(ho:o.op= .unOp op t x)(hv:OpR σ w D ρ F v (a.eval x))(h:qUn op v K): ∃r,K r/\Ak P o a w σ D ρ r:=by
 unfold qUn at h;obtain⟨fp,hr,_⟩:=hv;split at h
 ·exact⟨_,h,Ak.pure wr (by unfold execOp;rw [ho];simp [Op.unary,hr.1]) ⟨rfl,rfl,λ_ h=>h⟩⟩
 ·exact⟨_,h,Ak.pure wr (by unfold execOp;rw [ho];simp [Op.unary,hr.1,Op.intArith]) ⟨rfl,rfl,λ_ h=>h⟩⟩
 grind
inductive CvI where
 |int (k:IntKind)
 |string
 |bytes
 |other
def cvI(P:Program)(s d:TypeId):CvI:=
 match P.underlying s,P.underlying d with
 |some _,some (.int k)=>.int k
 |some .string,some .string=>.string
 |some (.slice e),some .string=>match P.underlying e with
  |some (.int .u8)=>.bytes
  |_=>.other
 |_,_=>.other
def W8(f:Nat->V):Nat->Option (List Int)
 |0=>some []
 |n+1=>match W8 f n,f n with
  |some l,.c (.int .u8 k)=>some (l++ [k])
  |_,_=>none
theorem My{f:Nat->V}: ∀ {n:Nat} {l:List Int},W8 f n=some l->l.length=n/\∀i,i<n->f i= .c (.int .u8 (l.getD i 0))
 |0,l,h=>by cases h;grind
 |n+1,l,h=>by
  unfold W8 at h;split at h
  ·rename_i l' k h1 h2
   cases h;obtain⟨g1,g2⟩:=My h1
   grind
  grind
def bytV(σ:List V):V->Option (List Int)
 | .nd true _ 1 n f=>W8 (λi=>f i 0) n
 | .rs id p off len=>match sub p (σ.getD id .dead)with
  | .nd true true 1 n f=>if off+len<=n then W8 (λi=>f (off+i) 0) len else none
  |_=>none
 |_=>none
def AaE(P:Program)(s d:TypeId)(vx:V)(z:V):Prop:=
 ∀ (w:World) (D:Nat->Prop) (R:V->Value->Prop) (cx:Value),Rel D w R vx cx noF->∃cz,(convert s d cx).run P w= .ok cz w/\Rel D w R z cz noF
theorem KX(w:World)(src dst e:TypeId)(hs:P.underlying src=some (.slice e))(he:P.underlying e=some (.int .u8))(hd:P.underlying dst=some .string)(ad:Option Addr)(c:Nat):
  (convert src dst (.slice ad 0 c)).run P w= .ok (.string (strOfNums [])) w:=by
 cases ad with
 |none=>rw [run_convert_bytes_nil w src e hs he 0 c dst hd];rfl
 |some a=>
  have hl:(loadCells a 0).run P w= .ok #[] w:=by
   rfl
  rw [run_convert_bytes_string w src dst e _ 0 c hs he hd,run_bytesToString w _ 0 c [] (by rfl)]
  rfl
theorem WO(wr:Bj σ w D ρ F){e:TypeId}{v:V}{cv:Value}{fp:Nat->Prop}{l:List Int}(hs:P.underlying s=some (.slice e))(he:P.underlying e=some (.int .u8))(hd:P.underlying d=some .string)
  (hr:Rel D w (Ag σ ρ w) v cv fp) (hl:bytV σ v=some l):(convert s d cv).run P w= .ok (.string (strOfNums l)) w:=by
 have node: ∀ {own:Bool} {n:Nat} {f:Nat->Nat->V} {b o cap:Nat} {off len:Nat},(∀i k,i<n->k<1->∃x,w.cell? ⟨b,o+i*1+k,none⟩=some x/\∃fp,Rel D w noR (f i k) x fp)->off+len<=n->W8 (λi=>f (off+i) 0) len=some l->
   ∀cap',(convert s d (.slice (some ⟨b,o+off*1,none⟩) len cap')).run P w= .ok (.string (strOfNums l)) w:=by
  intro own n f b o cap off len hc hle hu cap';obtain⟨g1,g2⟩:=My hu;refine run_convert_bytes_arg w s e hs he b (o+off*1) len cap' l g1 (λi hi=>?_) d hd
  obtain⟨x,hx,fp,hrx⟩:=hc (off+i) 0 (by omega) (by omega)
  rw [g2 i hi]at hrx;rw [<-hrx.1];have:o+(off+i)*1+0=o+off*1+i:=by omega
  rw [this]at hx;exact hx
 unfold bytV at hl;split at hl
 ·rename_i own n f
  rcases hr with⟨h0,_,hn,_⟩|⟨b,o,cap,F0,rfl,_,_,_,hc,_⟩
  ·obtain⟨ad,rfl⟩:=Ch hn
   subst h0;cases hl;exact KX w s d e hs he hd ad 0
  ·have:=node (own:=own) (cap:=cap) (off:=0) (len:=n) (λi k hi hk=>by obtain⟨x,hx,hrx⟩:=hc i k hi hk;exact⟨x,hx,_,hrx⟩) (by omega) (by simpa using hl) cap
   simpa [As]using this
 ·rename_i id p off len
  split at hl
  case h_2=>cases hl
  rename_i n f hsub;split at hl
  case isFalse=>cases hl
  rename_i hle;obtain⟨⟨hid,sz,n',f',cn,ha,hle',hcv⟩,_⟩:=hr;have hsb:=At.sub ha;rw [hsub]at hsb;cases hsb;obtain⟨fp1,hr1,_⟩:=Dt (w':=w) p _ _ _ _ _ (wr.rel id hid) (λb hb h'=>wr.dD id b h' hb) ha
  rcases hcv with⟨b,o,cap,rfl,rfl⟩|⟨h0,ad,rfl,_⟩
  ·rcases hr1 with⟨_,_,hn,_⟩|⟨b2,o2,cap2,F2,hcv2,_,_,_,hc,_⟩
   ·exact absurd hn By
   ·obtain⟨rfl,rfl,_⟩:=Ap hcv2
    exact node (own:=true) (cap:=cap) (off:=off) (len:=len) (λi k hi hk=>by obtain⟨x,hx,hrx⟩:=hc i k hi hk;exact⟨x,hx,_,hrx⟩) hle hl (cap-off)
  ·subst h0
   cases hl;exact KX w s d e hs he hd _ 0
 ·cases hl
def Nb(P:Program)(σ:List V)(s d:TypeId)(x:V)(K:V->Prop):Prop:=
 match cvI P s d,x with
 | .int k,.c (.int _ n)=>K (.c (.int k (k.wrap n)))
 | .string,.c (.string b)=>K (.c (.string b))
 | .bytes,x=>match bytV σ x with
  |some l=>K (.c (.string (strOfNums l)))
  |none=>False
 |_,_=>∃z,AaE P s d x z/\AE x=false/\K z
theorem OC(wr:Bj σ w D ρ F)(ho:o.op= .convert s d x)(hv:OpR σ w D ρ F v (a.eval x))(h:Nb P σ s d v K): ∃r,K r/\Ak P o a w σ D ρ r:=by
 obtain⟨fp,hr,_⟩:=hv;unfold Nb at h;split at h
 ·rename_i k k' n hcv
  unfold cvI at hcv;split at hcv<;>try (cases hcv;done)
  case h_3=>split at hcv<;>cases hcv
  rename_i d' k'' hs hd;cases hcv;exact⟨_,h,Ak.pure wr (by unfold execOp;rw [ho];simp [convert,run_underlying hs,run_underlying hd,hr.1,Conv.intToInt]) ⟨rfl,rfl,λ_ h=>h⟩⟩
 ·rename_i b hcv
  unfold cvI at hcv;split at hcv<;>try (cases hcv;done)
  case h_3=>split at hcv<;>cases hcv
  rename_i hs hd;exact⟨_,h,Ak.pure wr (by unfold execOp;rw [ho];simp [convert,run_underlying hs,run_underlying hd,hr.1]) ⟨rfl,rfl,λ_ h=>h⟩⟩
 ·rename_i hcv
  split at h
  case h_2=>exact h.elim
  rename_i l hl;have hu: ∃e,P.underlying s=some (.slice e)/\P.underlying e=some (.int .u8)/\P.underlying d=some .string:=by
   unfold cvI at hcv;split at hcv<;>try (cases hcv;done)
   rename_i e hs hd;split at hcv
   ·exact⟨e,hs,by assumption,hd⟩
   ·cases hcv
  obtain⟨e,hs,he,hd⟩:=hu;refine⟨_,h,Ak.pure wr ?_ ⟨rfl,rfl,λ_ h=>h⟩⟩
  unfold execOp;rw [ho];have:(convert s d (a.eval x)).run P w= .ok (.string (strOfNums l)) w:=WO wr hs he hd hr hl;simp [this]
 ·obtain⟨z,hz,h1,hK⟩:=h
  have e1:=AY (Au _ _ _ h1 hr);subst e1;obtain⟨cz,hrun,hrz⟩:=hz w D _ _ hr;exact⟨z,hK,Ak.pure wr (by unfold execOp;rw [ho];simp [hrun]) hrz⟩
def Cd(x:V)(i:Nat)(K:V->Prop):Prop:=
 match x with
 | .many .tu n f=>i<n/\AE (f i)=false/\K (f i)
 |_=>False
theorem J9(wr:Bj σ w D ρ F){i:Nat}(ho:o.op= .extract x i)(hv:OpR σ w D ρ F v (a.eval x))(h:Cd v i K): ∃r,K r/\Ak P o a w σ D ρ r:=by
 unfold Cd at h;obtain⟨fp,hr,_⟩:=hv;split at h
 ·obtain⟨hi,ht,hK⟩:=h
  obtain⟨cs,F',hcv,hn,hr,_,_⟩:=hr;have hcv:a.eval x= .tuple cs:=hcv;have h1:=hr i hi;have e1:=AY (Au _ _ _ ht h1);rw [e1]at h1;refine⟨_,hK,Ak.pure wr ?_ h1⟩;unfold execOp;rw [ho];simp [Instr.extract,hcv,hn,hi]
 grind
def qLen(x:V)(K:V->Prop):Prop:=
 match x with
 | .c (.string s)=>K (.c (.int .i64 s.size))
 | .c (.slice none 0 0)=>K (.c (.int .i64 0))
 | .nd true _ _ n _=>K (.c (.int .i64 n))
 | .rs _ _ _ len=>K (.c (.int .i64 len))
 |_=>False
inductive LenI where
 |string|slice|other
def Mt(P:Program)(t:TypeId):LenI:=match P.underlying t with
 |some .string=>.string
 |some (.slice _)=>.slice
 |_=>.other
theorem Rel.sliceLen{R:V->Value->Prop}{own:Bool}{sz n:Nat}{f:Nat->Nat->V}(h:Rel D w R (.nd true own sz n f) cv fp): ∃a cap,cv= .slice a n cap:=by
 rcases h with⟨rfl,_,hn0,_⟩|⟨b,o,cap,F,rfl,_⟩
 ·obtain⟨a,rfl⟩:=Ch hn0
  simp
 ·exact⟨_,_,rfl⟩
theorem Q3(wr:Bj σ w D ρ F)(ht:Mt P t= .string/\(∃s,v= .c (.string s))\/Mt P t= .slice/\¬ (∃s,v= .c (.string s)))(ho:o.op= .call {callee:=.builtin .len,args:=#[x],argTypes:=#[t]})(hv:OpR σ w D ρ F v (a.eval x))(h:qLen v K): ∃r,K r/\Ak P o a w σ D ρ r:=by
 unfold qLen at h;obtain⟨fp,hr,_⟩:=hv
 have hex: ∀z,(Builtin.len_ #[t] o.type #[a.eval x]).run P w= .ok z w->(execOp a.eval o).run P w= .ok (.value z) w:=by
  intro z hz;unfold execOp;rw [ho];simp [resolve,invoke,builtin,hz]
 have hsl:Mt P t= .slice->∃e,P.underlying t=some (.slice e):=by
  intro h;unfold Mt at h;split at h<;>first|exact⟨_,‹_›⟩|cases h
 have hst:Mt P t= .string->P.underlying t=some .string:=by
  intro h;unfold Mt at h;split at h<;>first|assumption|cases h
 have hs2: ∀ad n cap,a.eval x= .slice ad n cap->Mt P t= .slice->(execOp a.eval o).run P w= .ok (.value (.int .i64 n)) w:=by
  intro ad n cap he hl;obtain⟨e,hu⟩:=hsl hl;exact hex _ (by simp [Builtin.len_,run_underlying hu,he,goInt])
 split at h
 ·rename_i s
  have hl:Mt P t= .string:=ht.elim (λh=>h.1) λh=>absurd ⟨s,rfl⟩ h.2
  exact⟨_,h,Ak.pure wr (hex _ (by simp [Builtin.len_,run_underlying (hst hl),hr.1,goInt])) ⟨rfl,rfl,λ_ h=>h⟩⟩
 ·have hl:Mt P t= .slice:=ht.elim (λh=>by obtain⟨_,s,hs⟩:=h;cases hs) λh=>h.1
  exact⟨_,h,Ak.pure wr (hs2 _ _ _ hr.1 hl) ⟨rfl,rfl,λ_ h=>h⟩⟩
 ·have hl:Mt P t= .slice:=ht.elim (λh=>by obtain⟨_,s,hs⟩:=h;cases hs) λh=>h.1
  obtain⟨ad,cap,he⟩:=Rel.sliceLen hr;exact⟨_,h,Ak.pure wr (hs2 _ _ _ he hl) ⟨rfl,rfl,λ_ h=>h⟩⟩
 ·have hl:Mt P t= .slice:=ht.elim (λh=>by obtain⟨_,s,hs⟩:=h;cases hs) λh=>h.1
  obtain⟨⟨hid,sz,n,f,cn,ha,hle,hcv⟩,_⟩:=hr;rcases hcv with⟨b,o',cap,rfl,hcv⟩|⟨h0,ad,hcv,_⟩
  ·exact⟨_,h,Ak.pure wr (hs2 _ _ _ hcv hl) ⟨rfl,rfl,λ_ h=>h⟩⟩
  ·rename_i len
   subst h0;exact⟨_,h,Ak.pure wr (hs2 _ _ _ hcv hl) ⟨rfl,rfl,λ_ h=>h⟩⟩
 ·exact h.elim
end ops
end Go.Ve

