/- The quiet operations of the small machine: slices of slices and of texts, new memory. -/
import Derived.Test.YteakdlfnmhlifaaVe
set_option linter.all false
namespace Go.Ve
variable{n sz:Nat}{f:Nat->Nat->V}{fp:Nat->Prop}{t:TypeId}{R:V->Value->Prop}{cv:Value}
section ops
variable {P:Program}{o:Oper}{a:Act}{w:World}{σ:List V}{D:Nat->Prop}{ρ:Nat->Value}{F:Nat->Nat->Prop}{K:V->Prop}
def Rel.nd_R{R':V->Value->Prop}{s own:Bool}(h:Rel D w R (.nd s own sz n f) cv fp):Rel D w R' (.nd s own sz n f) cv fp:=h
def bnd(d:Int):Option V->Option Int
 |none=>some d
 |some (.c (.int _ i))=>some i
 |_=>none
def AbS(d:Int):Option Value->Option Int
 |none=>some d
 |some (.int _ i)=>some i
 |_=>none
def DO(B:Bool)(len cap:Nat)(E hi:Option Value)(l h:Nat)(e:AbS 0 E=some (l:Int))(u:AbS len hi=some (h:Int))(J:l<=h)(H:h<=cap):
  (Instr.sliceBounds B len cap E hi none).run P w=.ok (l,h,cap) w:=by
 have A:∀(k:IntKind) (i y:Nat) c,i<=y->(Instr.sliceBound (.int k i) y c).run P w=.ok i w:=by
  intro k i y c hi;simp[Instr.sliceBound,asIntOf,hi]
 unfold AbS at e u;split at e<;>split at u<;>simp at e u
 .obtain rfl:l=0:=by omega
  obtain rfl:len=h:=by omega
  rfl
 .obtain rfl:l=0:=by omega
  subst u;simp[Instr.sliceBounds,A _ _ _ _ H]
 .obtain rfl:len=h:=by omega
  subst e;simp[Instr.sliceBounds,A _ _ _ _ J]
 .subst e;subst u;simp[Instr.sliceBounds,A _ _ _ _ J,A _ _ _ _ H]
def DP{e:TypeId}{i:TypeInfo}(B:P.underlying t=some (.slice e))(hi:P.info? e=some i)(ad:Option Addr)(len cap:Nat)(A u:Option Value)(l h:Nat)(E:AbS 0 A=some (l:Int))(H:AbS len u=some (h:Int))(O:l<=h)(J:h<=cap):
  (Instr.sliceAt t (.slice ad len cap) A u none).run P w=.ok (.slice (if cap=l then ad else ad.map (·.add (l*i.size))) (h-l) (cap-l)) w:=by
 simp[Instr.sliceAt,Instr.slice,run_underlying B,DO true len cap A u l h E H O J,sizeOf,typeInfo,hi]
def Oh(u:P.underlying t=some .string)(s:ByteArray)(e hi:Option Value)(l h:Nat)(A:AbS 0 e=some (l:Int))(B:AbS s.size hi=some (h:Int))(H:l<=h)(E:h<=s.size):
  (Instr.sliceAt t (.string s) e hi none).run P w=.ok (.string (s.extract l h)) w:=by
 simp[Instr.sliceAt,Instr.slice,run_underlying u,DO false s.size s.size e hi l h A B H E]
inductive SlK where
 |string|slice (size:Nat)|other
def slK(P:Program)(t:TypeId):SlK:=match P.underlying t with
 |some .string=>.string
 |some (.slice e)=>match P.info? e with
  |some i=>.slice i.size
  |none=>.other
 |_=>.other
def Lz(k:SlK)(σ:List V)(x:V)(e hi:Option V)(K:V->Prop):Prop:=
 match k,x with
 |.string,.c (.string s)=>match bnd 0 e,bnd s.size hi with
  |some l,some h=>(0<=l/\l<=h/\h<=s.size)/\K (.c (.string (s.extract l.toNat h.toNat)))
  |_,_=>False
 |.slice size,.nd true false sz n f=>match bnd 0 e,bnd n hi with
  |some l,some h=>sz=size/\(0<=l/\l<=h/\h<=n)/\K (.nd true false sz (h.toNat-l.toNat) λi k=>f (i+l.toNat) k)
  |_,_=>False
 |.slice size,.rs id p off len=>match bnd 0 e,bnd len hi with
  |some l,some h=>AY σ id p=size/\(0<=l/\l<=h/\h<=len)/\K (.rs id p (off+l.toNat) (h.toNat-l.toNat))
  |_,_=>False
 |_,_=>False
def OptR(σ:List V)(w:World)(D:Nat->Prop)(ρ:Nat->Value)(F:Nat->Nat->Prop):Option V->Option Value->Prop
 |none,none=>True
 |some v,some c=>OpR σ w D ρ F v c
 |_,_=>False
theorem IW{d:Int}{A:Option V}{l:Int}{e:Option Value}(h:bnd d A=some l)(u:OptR σ w D ρ F A e):AbS d e=some l:=by
 unfold bnd at h;split at h
 .cases e with
  |none=>exact h
  |some c=>trivial
 .cases e with
  |none=>trivial
  |some c=>obtain⟨_,u,_⟩:=u;obtain rfl:=u.1;exact h
 grind
theorem O8(h:Rel D w R (.nd true false sz n f) cv fp):
  ∃(ad:Option Addr) (cap:Nat),cv=.slice ad n cap/\n<=cap/\n<=maxLen/\((n=0/\cap=0/\nilS (.slice ad 0 0))\/∃b o,ad=some ⟨b,o,none⟩/\
   ∀i k,i<n->k<sz->D b/\∃x,w.cell? ⟨b,o+i*sz+k,none⟩=some x/\Rel D w noR (f i k) x noF):=by
 rcases h with⟨rfl,_,e,_⟩|⟨b,o,cap,F,H,B,u,hs,U,hi,_⟩
 .rcases e with rfl|⟨_,e⟩
  .exact⟨none,0,rfl,Nat.le_refl _,Nat.zero_le _,.inl ⟨rfl,rfl,Yg⟩⟩
  .obtain⟨a,rfl,W⟩:=e
   exact⟨a,0,rfl,Nat.le_refl _,Nat.zero_le _,.inl ⟨rfl,rfl,a,rfl,W⟩⟩
 .obtain⟨Z,Y,h3⟩:=hi rfl
  refine⟨some ⟨b,o,none⟩,cap,H,B,u,.inr ⟨b,o,rfl,λi k A J=>⟨Z (Nat.mul_pos (by omega) (by omega)),?_⟩⟩⟩
  obtain⟨x,O,E⟩:=U i k A J;exact⟨x,O,A4 (Y i k · A J)▸E⟩
theorem Ot(wr:Bg σ w D ρ F){v:V}{x:Operand}{lo hi:Option Operand}{vlo vhi:Option V}(ho:o.op=.slice t x lo hi none)(hv:OpR σ w D ρ F v (a.eval x))
  (hlo:OptR σ w D ρ F vlo (lo.map a.eval)) (hhi:OptR σ w D ρ F vhi (hi.map a.eval))
  (h:Lz (slK P t) σ v vlo vhi K):∃r,K r/\Ar P o a w σ D ρ r:=by
 unfold Lz at h;obtain⟨fp,hr,_⟩:=hv
 have U:∀z,(Instr.sliceAt t (a.eval x) (lo.map a.eval) (hi.map a.eval) none).run P w=.ok z w->(execOp a.eval o).run P w=.ok (.value z) w:=by
  intro z hz;unfold execOp;rw[ho];simp[hz]
 have hstr:slK P t=.string->P.underlying t=some .string:=by
  intro h;unfold slK at h;split at h<;>first|assumption|(split at h<;>cases h)|cases h
 have hsl:∀size,slK P t=.slice size->∃e i,P.underlying t=some (.slice e)/\P.info? e=some i/\i.size=size:=by
  intro size h;unfold slK at h;split at h
  .cases h
  .split at h
   .cases h;exact⟨_,_,by assumption,by assumption,rfl⟩
   .cases h
  .cases h
 split at h
 .rename_i s Y
  split at h
  .rename_i l h' H J
   obtain⟨⟨Z,h2,h3⟩,hK⟩:=h;have e1:=IW H hlo;have W:=IW J hhi;obtain⟨B,rfl⟩:=Int.eq_ofNat_of_zero_le Z;obtain⟨A,rfl⟩:=Int.eq_ofNat_of_zero_le (Int.le_trans Z h2);refine⟨_,hK,Ar.pure wr (U _ ?_) ⟨rfl,rfl,λ_ h=>h⟩⟩
   rw[hr.1];exact Oh (hstr Y) s _ _ B A e1 W (by omega) (by omega)
  .exact h.elim
 .rename_i size sz n f Y
  obtain⟨e,i0,hu,O,his⟩:=hsl _ Y;split at h
  .rename_i l h' H J
   obtain⟨rfl,⟨Z,h2,h3⟩,hK⟩:=h;have e1:=IW H hlo;have W:=IW J hhi;obtain⟨B,rfl⟩:=Int.eq_ofNat_of_zero_le Z;obtain⟨A,rfl⟩:=Int.eq_ofNat_of_zero_le (Int.le_trans Z h2);obtain⟨ad,cap,u,hcap,hmax,hc⟩:=O8 hr;refine⟨_,hK,Ar.pure wr (U _ (by rw[u];exact DP hu O ad n cap _ _ B A e1 W (by omega) (by omega))) ?_⟩
   simp only[tNC]at*;rcases hc with⟨rfl,rfl,hn0⟩|⟨b,o',rfl,hc⟩
   .obtain rfl:B=0:=by omega
    obtain rfl:A=0:=by omega
    exact .inl ⟨by omega,rfl,.inr ⟨rfl,by simpa using hn0⟩,λ_ h=>h⟩
   .by_cases E:cap=B
    .rw[if_pos E]
     refine .inr ⟨b,o',cap-B,λ_ _=>noF,rfl,by omega,by omega,(λh=>by cases h),λi k hi' Y=>by omega,λ_=>⟨λhp=>?_,λ_ _ _ _ _ h=>h,λ_ h=>h⟩,λh=>by cases h⟩
     have:A-B=0:=by omega
     rw[this]at hp;omega
    .rw[if_neg E]
     simp only[Option.map_some];rw[A3 rfl,his];refine .inr ⟨b,o'+B*sz,cap-B,λ_ _=>noF,rfl,by omega,by omega,(λh=>by cases h),λi k hi' Y=>?_,λ_=>⟨λhp=>?_,λ_ _ _ _ _ h=>h,λ_ h=>h⟩,λh=>by cases h⟩
     .obtain⟨_,y,hy,hry⟩:=hc (i+B) k (by omega) Y
      exact⟨y,by rw[<-hy];congr 2;rw[Nat.add_mul];omega,hry⟩
     .have hp1:0<A-B:=Nat.pos_of_mul_pos_right hp
      have hp2:0<sz:=Nat.pos_of_mul_pos_left hp;exact(hc B 0 (by omega) hp2).1
  .exact h.elim
 .rename_i size id p off len Y
  obtain⟨e,i0,hu,O,his⟩:=hsl _ Y;split at h
  .rename_i l h' H J
   obtain⟨hns,⟨Z,h2,h3⟩,hK⟩:=h;have e1:=IW H hlo;have W:=IW J hhi;obtain⟨B,rfl⟩:=Int.eq_ofNat_of_zero_le Z;obtain⟨A,rfl⟩:=Int.eq_ofNat_of_zero_le (Int.le_trans Z h2);simp only[tNC]at*;obtain⟨⟨hid,sz,n,f,cn,ha,hle,u⟩,_⟩:=hr;have hns':AY σ id p=sz:=by unfold AY;rw[<-At.sub ha]
   rw[hns']at hns;rcases u with⟨b,o',cap,rfl,u⟩|⟨h0,ad,u⟩
   .have hcap:n<=cap:=by
     obtain⟨fp1,hr1,_⟩:=Dg (w':=w) p _ _ _ _ _ (wr.rel id hid) (λb hb h=>wr.dD id b h hb) ha
     rcases hr1 with⟨_,_,h3,_⟩|⟨b2,o2,cap2,F2,hcv2,hcap2,_⟩
     .exact absurd h3 BP
     .have:=(As hcv2).2.2 rfl;omega
    refine⟨_,hK,Ar.pure wr (U _ (by rw[u];exact DP hu O _ len (cap-off) _ _ B A e1 W (by omega) (by omega))) ⟨⟨hid,sz,n,f,_,ha,by omega,?_⟩,λ_ h=>h⟩⟩
    by_cases E:cap-off=B
    .rw[if_pos E]
     exact .inr ⟨by omega,some (b,o'+off*sz),by rw[show A-B=0 by omega,show cap-off-B=0 by omega];rfl,λe1 W=>by
      obtain rfl:off=0:=by omega
      obtain rfl:B=0:=by omega
      simp only[Ay,if_true,Value.slice.injEq];refine⟨by simp,by omega,by omega⟩,λp e=>by
      cases e;exact⟨o',cap,rfl,Nat.le_add_right _ _,Nat.add_le_add_left (Nat.mul_le_mul_right _ (by omega)) _⟩⟩
    .rw[if_neg E]
     refine .inl ⟨b,o',cap,rfl,?_⟩;simp only[Option.map_some];rw[A3 rfl,his,<-hns];simp only[Nat.add_mul,Nat.add_assoc,Nat.sub_sub]
   .obtain⟨u,hfull,hab⟩:=u
    subst h0;have hl0:B=0:=by omega
    have hh0:A=0:=by omega
    subst hl0;subst hh0;refine⟨_,hK,Ar.pure wr (U _ (by rw[u];exact DP hu O _ 0 0 _ _ 0 0 e1 W (Nat.le_refl _) (Nat.le_refl _))) ⟨⟨hid,sz,n,f,cn,ha,by omega,.inr ⟨rfl,ad,rfl,(λe1 W=>by rw[<-hfull (by omega) W,u]),hab⟩⟩,λ_ h=>h⟩⟩
  .exact h.elim
 .exact h.elim
end ops
end Go.Ve

