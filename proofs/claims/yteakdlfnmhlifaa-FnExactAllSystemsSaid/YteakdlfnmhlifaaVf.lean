/- The quiet operations of the small machine: slices of slices and of texts, new memory. -/
import Derived.Test.YteakdlfnmhlifaaVe
set_option linter.all false
namespace Go.Ve
variable{n sz:Nat}{f:Nat->Nat->V}{fp:Nat->Prop}{t:TypeId}{R:V->Value->Prop}{cv:Value}
section ops
variable {P:Program}{o:Oper}{a:Act}{w:World}{σ:List V}{D:Nat->Prop}{ρ:Nat->Value}{F:Nat->Nat->Prop}{K:V->Prop}
def Rel.nd_R{R':V->Value->Prop}{s own:Bool}(h:Rel D w R (.nd s own sz n f) cv fp):Rel D w R' (.nd s own sz n f) cv fp:=h
def bnd(d:Int):Option V->Option Int
 |none=>some d
 |some (.c (.int _ i))=>some i
 |_=>none
def Abn(d:Int):Option Value->Option Int
 |none=>some d
 |some (.int _ i)=>some i
 |_=>none
def DF(U:Bool)(len cap:Nat)(W hi:Option Value)(l h:Nat)(A:Abn 0 W=some (l:Int))(B:Abn len hi=some (h:Int))(Z:l<=h)(Y:h<=cap):
  (Instr.sliceBounds U len cap W hi none).run P w=.ok (l,h,cap) w:=by
 have H:∀(k:IntKind) (i y:Nat) c,i<=y->(Instr.sliceBound (.int k i) y c).run P w=.ok i w:=by
  intro k i y c hi;simp[Instr.sliceBound,asIntOf,hi]
 unfold Abn at A B;split at A<;>split at B<;>simp at A B
 .obtain rfl:l=0:=by omega
  obtain rfl:len=h:=by omega
  rfl
 .obtain rfl:l=0:=by omega
  subst B;simp[Instr.sliceBounds,H _ _ _ _ Y]
 .obtain rfl:len=h:=by omega
  subst A;simp[Instr.sliceBounds,H _ _ _ _ Z]
 .subst A;subst B;simp[Instr.sliceBounds,H _ _ _ _ Z,H _ _ _ _ Y]
def DG{e:TypeId}{i:TypeInfo}(H:P.underlying t=some (.slice e))(hi:P.info? e=some i)(ad:Option Addr)(len cap:Nat)(B A:Option Value)(l h:Nat)(U:Abn 0 B=some (l:Int))(W:Abn len A=some (h:Int))(Z:l<=h)(Y:h<=cap):
  (Instr.sliceAt t (.slice ad len cap) B A none).run P w=.ok (.slice (if cap=l then ad else ad.map (·.add (l*i.size))) (h-l) (cap-l)) w:=by
 simp[Instr.sliceAt,Instr.slice,run_underlying H,DF true len cap B A l h U W Z Y,sizeOf,typeInfo,hi]
def N6(B:P.underlying t=some .string)(s:ByteArray)(A hi:Option Value)(l h:Nat)(H:Abn 0 A=some (l:Int))(U:Abn s.size hi=some (h:Int))(Y:l<=h)(W:h<=s.size):
  (Instr.sliceAt t (.string s) A hi none).run P w=.ok (.string (s.extract l h)) w:=by
 simp[Instr.sliceAt,Instr.slice,run_underlying B,DF false s.size s.size A hi l h H U Y W]
inductive SlK where
 |string|slice (size:Nat)|other
def slK(P:Program)(t:TypeId):SlK:=match P.underlying t with
 |some .string=>.string
 |some (.slice e)=>match P.info? e with
  |some i=>.slice i.size
  |none=>.other
 |_=>.other
def Lr(k:SlK)(σ:List V)(x:V)(A hi:Option V)(K:V->Prop):Prop:=
 match k,x with
 |.string,.c (.string s)=>match bnd 0 A,bnd s.size hi with
  |some l,some h=>(0<=l/\l<=h/\h<=s.size)/\K (.c (.string (s.extract l.toNat h.toNat)))
  |_,_=>False
 |.slice size,.nd true false sz n f=>match bnd 0 A,bnd n hi with
  |some l,some h=>sz=size/\(0<=l/\l<=h/\h<=n)/\K (.nd true false sz (h.toNat-l.toNat) λi k=>f (i+l.toNat) k)
  |_,_=>False
 |.slice size,.rs id p off len=>match bnd 0 A,bnd len hi with
  |some l,some h=>AW σ id p=size/\(0<=l/\l<=h/\h<=len)/\K (.rs id p (off+l.toNat) (h.toNat-l.toNat))
  |_,_=>False
 |_,_=>False
def OptR(σ:List V)(w:World)(D:Nat->Prop)(ρ:Nat->Value)(F:Nat->Nat->Prop):Option V->Option Value->Prop
 |none,none=>True
 |some v,some c=>OpR σ w D ρ F v c
 |_,_=>False
theorem IQ{d:Int}{H:Option V}{l:Int}{A:Option Value}(h:bnd d H=some l)(B:OptR σ w D ρ F H A):Abn d A=some l:=by
 unfold bnd at h;split at h
 .cases A with
  |none=>exact h
  |some c=>trivial
 .cases A with
  |none=>trivial
  |some c=>obtain⟨_,B,_⟩:=B;obtain rfl:=B.1;exact h
 grind
theorem OT(h:Rel D w R (.nd true false sz n f) cv fp):
  ∃(ad:Option Addr) (cap:Nat),cv=.slice ad n cap/\n<=cap/\n<=maxLen/\((n=0/\cap=0/\nilS (.slice ad 0 0))\/∃b o,ad=some ⟨b,o,none⟩/\
   ∀i k,i<n->k<sz->D b/\∃x,w.cell? ⟨b,o+i*sz+k,none⟩=some x/\Rel D w noR (f i k) x noF):=by
 rcases h with⟨rfl,_,A,_⟩|⟨b,o,cap,F,Y,U,B,hs,hr,hi,_⟩
 .rcases A with rfl|⟨_,A⟩
  .exact⟨none,0,rfl,Nat.le_refl _,Nat.zero_le _,.inl ⟨rfl,rfl,XH⟩⟩
  .obtain⟨a,rfl,ha⟩:=A
   exact⟨a,0,rfl,Nat.le_refl _,Nat.zero_le _,.inl ⟨rfl,rfl,a,rfl,ha⟩⟩
 .obtain⟨h1,h2,h3⟩:=hi rfl
  refine⟨some ⟨b,o,none⟩,cap,Y,U,B,.inr ⟨b,o,rfl,λi k H Z=>⟨h1 (Nat.mul_pos (by omega) (by omega)),?_⟩⟩⟩
  obtain⟨x,hx,W⟩:=hr i k H Z;exact⟨x,hx,A2 (h2 i k · H Z)▸W⟩
theorem Of(wr:Be σ w D ρ F){v:V}{x:Operand}{lo hi:Option Operand}{vlo vhi:Option V}(ho:o.op=.slice t x lo hi none)(hv:OpR σ w D ρ F v (a.eval x))
  (hlo:OptR σ w D ρ F vlo (lo.map a.eval)) (hhi:OptR σ w D ρ F vhi (hi.map a.eval))
  (h:Lr (slK P t) σ v vlo vhi K):∃r,K r/\Ap P o a w σ D ρ r:=by
 unfold Lr at h;obtain⟨fp,hr,_⟩:=hv
 have hex:∀z,(Instr.sliceAt t (a.eval x) (lo.map a.eval) (hi.map a.eval) none).run P w=.ok z w->(execOp a.eval o).run P w=.ok (.value z) w:=by
  intro z hz;unfold execOp;rw[ho];simp[hz]
 have hstr:slK P t=.string->P.underlying t=some .string:=by
  intro h;unfold slK at h;split at h<;>first|assumption|(split at h<;>cases h)|cases h
 have hsl:∀size,slK P t=.slice size->∃e i,P.underlying t=some (.slice e)/\P.info? e=some i/\i.size=size:=by
  intro size h;unfold slK at h;split at h
  .cases h
  .split at h
   .cases h;exact⟨_,_,by assumption,by assumption,rfl⟩
   .cases h
  .cases h
 split at h
 .rename_i s hk
  split at h
  .rename_i l h' W Y
   obtain⟨⟨h1,h2,h3⟩,hK⟩:=h;have e1:=IQ W hlo;have e2:=IQ Y hhi;obtain⟨H,rfl⟩:=Int.eq_ofNat_of_zero_le h1;obtain⟨B,rfl⟩:=Int.eq_ofNat_of_zero_le (Int.le_trans h1 h2);refine⟨_,hK,Ap.pure wr (hex _ ?_) ⟨rfl,rfl,λ_ h=>h⟩⟩
   rw[hr.1];exact N6 (hstr hk) s _ _ H B e1 e2 (by omega) (by omega)
  .exact h.elim
 .rename_i size sz n f hk
  obtain⟨e,i0,hu,Z,his⟩:=hsl _ hk;split at h
  .rename_i l h' W Y
   obtain⟨rfl,⟨h1,h2,h3⟩,hK⟩:=h;have e1:=IQ W hlo;have e2:=IQ Y hhi;obtain⟨H,rfl⟩:=Int.eq_ofNat_of_zero_le h1;obtain⟨B,rfl⟩:=Int.eq_ofNat_of_zero_le (Int.le_trans h1 h2);obtain⟨ad,cap,A,hcap,hmax,hc⟩:=OT hr;refine⟨_,hK,Ap.pure wr (hex _ (by rw[A];exact DG hu Z ad n cap _ _ H B e1 e2 (by omega) (by omega))) ?_⟩
   simp only[tNC]at*;rcases hc with⟨rfl,rfl,hn0⟩|⟨b,o',rfl,hc⟩
   .obtain rfl:H=0:=by omega
    obtain rfl:B=0:=by omega
    exact .inl ⟨by omega,rfl,.inr ⟨rfl,by simpa using hn0⟩,λ_ h=>h⟩
   .by_cases U:cap=H
    .rw[if_pos U]
     refine .inr ⟨b,o',cap-H,λ_ _=>noF,rfl,by omega,by omega,(λh=>by cases h),λi k hi' hk=>by omega,λ_=>⟨λhp=>?_,λ_ _ _ _ _ h=>h,λ_ h=>h⟩,λh=>by cases h⟩
     have:B-H=0:=by omega
     rw[this]at hp;omega
    .rw[if_neg U]
     simp only[Option.map_some];rw[AZ rfl,his];refine .inr ⟨b,o'+H*sz,cap-H,λ_ _=>noF,rfl,by omega,by omega,(λh=>by cases h),λi k hi' hk=>?_,λ_=>⟨λhp=>?_,λ_ _ _ _ _ h=>h,λ_ h=>h⟩,λh=>by cases h⟩
     .obtain⟨_,y,hy,hry⟩:=hc (i+H) k (by omega) hk
      exact⟨y,by rw[<-hy];congr 2;rw[Nat.add_mul];omega,hry⟩
     .have hp1:0<B-H:=Nat.pos_of_mul_pos_right hp
      have hp2:0<sz:=Nat.pos_of_mul_pos_left hp;exact(hc H 0 (by omega) hp2).1
  .exact h.elim
 .rename_i size id p off len hk
  obtain⟨e,i0,hu,Z,his⟩:=hsl _ hk;split at h
  .rename_i l h' W Y
   obtain⟨hns,⟨h1,h2,h3⟩,hK⟩:=h;have e1:=IQ W hlo;have e2:=IQ Y hhi;obtain⟨H,rfl⟩:=Int.eq_ofNat_of_zero_le h1;obtain⟨B,rfl⟩:=Int.eq_ofNat_of_zero_le (Int.le_trans h1 h2);simp only[tNC]at*;obtain⟨⟨hid,sz,n,f,cn,ha,hle,A⟩,_⟩:=hr;have hns':AW σ id p=sz:=by unfold AW;rw[<-At.sub ha]
   rw[hns']at hns;rcases A with⟨b,o',cap,rfl,A⟩|⟨h0,ad,A⟩
   .have hcap:n<=cap:=by
     obtain⟨fp1,hr1,_⟩:=Ds (w':=w) p _ _ _ _ _ (wr.rel id hid) (λb hb h=>wr.dD id b h hb) ha
     rcases hr1 with⟨_,_,h3,_⟩|⟨b2,o2,cap2,F2,hcv2,hcap2,_⟩
     .exact absurd h3 BF
     .have:=(Am hcv2).2.2 rfl;omega
    refine⟨_,hK,Ap.pure wr (hex _ (by rw[A];exact DG hu Z _ len (cap-off) _ _ H B e1 e2 (by omega) (by omega))) ⟨⟨hid,sz,n,f,_,ha,by omega,?_⟩,λ_ h=>h⟩⟩
    by_cases U:cap-off=H
    .rw[if_pos U]
     exact .inr ⟨by omega,some (b,o'+off*sz),by rw[show B-H=0 by omega,show cap-off-H=0 by omega];rfl,λe1 e2=>by
      obtain rfl:off=0:=by omega
      obtain rfl:H=0:=by omega
      simp only[Av,if_true,Value.slice.injEq];refine⟨by simp,by omega,by omega⟩,λp e=>by
      cases e;exact⟨o',cap,rfl,Nat.le_add_right _ _,Nat.add_le_add_left (Nat.mul_le_mul_right _ (by omega)) _⟩⟩
    .rw[if_neg U]
     refine .inl ⟨b,o',cap,rfl,?_⟩;simp only[Option.map_some];rw[AZ rfl,his,<-hns];simp only[Nat.add_mul,Nat.add_assoc,Nat.sub_sub]
   .obtain⟨A,hfull,hab⟩:=A
    subst h0;have hl0:H=0:=by omega
    have hh0:B=0:=by omega
    subst hl0;subst hh0;refine⟨_,hK,Ap.pure wr (hex _ (by rw[A];exact DG hu Z _ 0 0 _ _ 0 0 e1 e2 (Nat.le_refl _) (Nat.le_refl _))) ⟨⟨hid,sz,n,f,cn,ha,by omega,.inr ⟨rfl,ad,rfl,(λe1 e2=>by rw[<-hfull (by omega) e2,A]),hab⟩⟩,λ_ h=>h⟩⟩
  .exact h.elim
 .exact h.elim
end ops
end Go.Ve

