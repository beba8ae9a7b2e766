/- The quiet operations of the small machine: slices of slices and of texts, new memory. -/
import Derived.Test.YtojjlnbnneemaaaVe
set_option linter.all false
namespace Go.Ve
variable{n sz:Nat}{f:Nat->Nat->V}{fp:Nat->Prop}{t:TypeId}{R:V->Value->Prop}{cv:Value}
section ops
variable {P:Program}{o:Oper}{a:Act}{w:World}{σ:List V}{D:Nat->Prop}{ρ:Nat->Value}{F:Nat->Nat->Prop}{K:V->Prop}
def Rel.nd_R{R':V->Value->Prop}{s own:Bool}(h:Rel D w R (.nd s own sz n f) cv fp):Rel D w R' (.nd s own sz n f) cv fp:=h
def bnd(d:Int):Option V->Option Int
 |none=>some d
 |some (.c (.int _ i))=>some i
 |_=>none
def Aaw(d:Int):Option Value->Option Int
 |none=>some d
 |some (.int _ i)=>some i
 |_=>none
def DR(J:Bool)(len cap:Nat)(L B:Option Value)(l h:Nat)(e:Aaw 0 L=some (l:Int))(A:Aaw len B=some (h:Int))(O:l<=h)(M:h<=cap):
  (Instr.sliceBounds J len cap L B none).run P w=.ok (l,h,cap) w:=by
 have E:∀(k:IntKind) (i y:Nat) c,i<=y->(Instr.sliceBound (.int k i) y c).run P w=.ok i w:=by
  intro k i y c B;simp[Instr.sliceBound,asIntOf,B]
 unfold Aaw at e A;split at e<;>split at A<;>simp at e A
 .obtain rfl:l=0:=by omega
  obtain rfl:len=h:=by omega
  rfl
 .obtain rfl:l=0:=by omega
  subst A;simp[Instr.sliceBounds,E _ _ _ _ M]
 .obtain rfl:len=h:=by omega
  subst e;simp[Instr.sliceBounds,E _ _ _ _ O]
 .subst e;subst A;simp[Instr.sliceBounds,E _ _ _ _ O,E _ _ _ _ M]
def DS{e:TypeId}{i:TypeInfo}(E:P.underlying t=some (.slice e))(L:P.info? e=some i)(ad:Option Addr)(len cap:Nat)(B A:Option Value)(l h:Nat)(J:Aaw 0 B=some (l:Int))(M:Aaw len A=some (h:Int))(U:l<=h)(O:h<=cap):
  (Instr.sliceAt t (.slice ad len cap) B A none).run P w=.ok (.slice (if cap=l then ad else ad.map (·.add (l*i.size))) (h-l) (cap-l)) w:=by
 simp[Instr.sliceAt,Instr.slice,run_underlying E,DR true len cap B A l h J M U O,sizeOf,typeInfo,L]
def NM(B:P.underlying t=some .string)(s:ByteArray)(e A:Option Value)(l h:Nat)(E:Aaw 0 e=some (l:Int))(J:Aaw s.size A=some (h:Int))(M:l<=h)(L:h<=s.size):
  (Instr.sliceAt t (.string s) e A none).run P w=.ok (.string (s.extract l h)) w:=by
 simp[Instr.sliceAt,Instr.slice,run_underlying B,DR false s.size s.size e A l h E J M L]
inductive SlK where
 |string|slice (size:Nat)|other
def slK(P:Program)(t:TypeId):SlK:=match P.underlying t with
 |some .string=>.string
 |some (.slice e)=>match P.info? e with
  |some i=>.slice i.size
  |none=>.other
 |_=>.other
def Lh(k:SlK)(σ:List V)(x:V)(e A:Option V)(K:V->Prop):Prop:=
 match k,x with
 |.string,.c (.string s)=>match bnd 0 e,bnd s.size A with
  |some l,some h=>(0<=l/\l<=h/\h<=s.size)/\K (.c (.string (s.extract l.toNat h.toNat)))
  |_,_=>False
 |.slice size,.nd true false sz n f=>match bnd 0 e,bnd n A with
  |some l,some h=>sz=size/\(0<=l/\l<=h/\h<=n)/\K (.nd true false sz (h.toNat-l.toNat) λi k=>f (i+l.toNat) k)
  |_,_=>False
 |.slice size,.rs id p off len=>match bnd 0 e,bnd len A with
  |some l,some h=>A6 σ id p=size/\(0<=l/\l<=h/\h<=len)/\K (.rs id p (off+l.toNat) (h.toNat-l.toNat))
  |_,_=>False
 |_,_=>False
def OptR(σ:List V)(w:World)(D:Nat->Prop)(ρ:Nat->Value)(F:Nat->Nat->Prop):Option V->Option Value->Prop
 |none,none=>True
 |some v,some c=>OpR σ w D ρ F v c
 |_,_=>False
theorem IU{d:Int}{B:Option V}{l:Int}{e:Option Value}(h:bnd d B=some l)(A:OptR σ w D ρ F B e):Aaw d e=some l:=by
 unfold bnd at h;split at h
 .cases e with
  |none=>exact h
  |some c=>trivial
 .cases e with
  |none=>trivial
  |some c=>obtain⟨_,A,_⟩:=A;obtain rfl:=A.1;exact h
 grind
theorem OH(h:Rel D w R (.nd true false sz n f) cv fp):
  ∃(ad:Option Addr) (cap:Nat),cv=.slice ad n cap/\n<=cap/\n<=maxLen/\((n=0/\cap=0/\nilS (.slice ad 0 0))\/∃b o,ad=some ⟨b,o,none⟩/\
   ∀i k,i<n->k<sz->D b/\∃x,w.cell? ⟨b,o+i*sz+k,none⟩=some x/\Rel D w noR (f i k) x noF):=by
 rcases h with⟨rfl,_,e,_⟩|⟨b,o,cap,F,L,E,A,hs,U,W,_⟩
 .rcases e with rfl|⟨_,e⟩
  .exact⟨none,0,rfl,Nat.le_refl _,Nat.zero_le _,.inl ⟨rfl,rfl,W2⟩⟩
  .obtain⟨a,rfl,ha⟩:=e
   exact⟨a,0,rfl,Nat.le_refl _,Nat.zero_le _,.inl ⟨rfl,rfl,a,rfl,ha⟩⟩
 .obtain⟨Z,Y,h3⟩:=W rfl
  refine⟨some ⟨b,o,none⟩,cap,L,E,A,.inr ⟨b,o,rfl,λi k B M=>⟨Z (Nat.mul_pos (by omega) (by omega)),?_⟩⟩⟩
  obtain⟨x,O,J⟩:=U i k B M;exact⟨x,O,Bb (Y i k · B M)▸J⟩
theorem N0(wr:Bs σ w D ρ F){v:V}{x:Operand}{lo hi:Option Operand}{vlo vhi:Option V}(ho:o.op=.slice t x lo hi none)(hv:OpR σ w D ρ F v (a.eval x))
  (hlo:OptR σ w D ρ F vlo (lo.map a.eval)) (hhi:OptR σ w D ρ F vhi (hi.map a.eval))
  (h:Lh (slK P t) σ v vlo vhi K):∃r,K r/\Av P o a w σ D ρ r:=by
 unfold Lh at h;obtain⟨fp,hr,_⟩:=hv
 have U:∀z,(Instr.sliceAt t (a.eval x) (lo.map a.eval) (hi.map a.eval) none).run P w=.ok z w->(execOp a.eval o).run P w=.ok (.value z) w:=by
  intro z hz;unfold execOp;rw[ho];simp[hz]
 have hstr:slK P t=.string->P.underlying t=some .string:=by
  intro h;unfold slK at h;split at h<;>first|assumption|(split at h<;>cases h)|cases h
 have hsl:∀size,slK P t=.slice size->∃e i,P.underlying t=some (.slice e)/\P.info? e=some i/\i.size=size:=by
  intro size h;unfold slK at h;split at h
  .cases h
  .split at h
   .cases h;exact⟨_,_,by assumption,by assumption,rfl⟩
   .cases h
  .cases h
 split at h
 .rename_i s Y
  split at h
  .rename_i l h' L M
   obtain⟨⟨Z,h2,h3⟩,hK⟩:=h;have e1:=IU L hlo;have W:=IU M hhi;obtain⟨E,rfl⟩:=Int.eq_ofNat_of_zero_le Z;obtain⟨B,rfl⟩:=Int.eq_ofNat_of_zero_le (Int.le_trans Z h2);refine⟨_,hK,Av.pure wr (U _ ?_) ⟨rfl,rfl,λ_ h=>h⟩⟩
   rw[hr.1];exact NM (hstr Y) s _ _ E B e1 W (by omega) (by omega)
  .exact h.elim
 .rename_i size sz n f Y
  obtain⟨e,i0,hu,O,his⟩:=hsl _ Y;split at h
  .rename_i l h' L M
   obtain⟨rfl,⟨Z,h2,h3⟩,hK⟩:=h;have e1:=IU L hlo;have W:=IU M hhi;obtain⟨E,rfl⟩:=Int.eq_ofNat_of_zero_le Z;obtain⟨B,rfl⟩:=Int.eq_ofNat_of_zero_le (Int.le_trans Z h2);obtain⟨ad,cap,A,hcap,hmax,hc⟩:=OH hr;refine⟨_,hK,Av.pure wr (U _ (by rw[A];exact DS hu O ad n cap _ _ E B e1 W (by omega) (by omega))) ?_⟩
   simp only[tNC]at*;rcases hc with⟨rfl,rfl,hn0⟩|⟨b,o',rfl,hc⟩
   .obtain rfl:E=0:=by omega
    obtain rfl:B=0:=by omega
    exact .inl ⟨by omega,rfl,.inr ⟨rfl,by simpa using hn0⟩,λ_ h=>h⟩
   .by_cases J:cap=E
    .rw[if_pos J]
     refine .inr ⟨b,o',cap-E,λ_ _=>noF,rfl,by omega,by omega,(λh=>by cases h),λi k hi' Y=>by omega,λ_=>⟨λhp=>?_,λ_ _ _ _ _ h=>h,λ_ h=>h⟩,λh=>by cases h⟩
     have:B-E=0:=by omega
     rw[this]at hp;omega
    .rw[if_neg J]
     simp only[Option.map_some];rw[A9 rfl,his];refine .inr ⟨b,o'+E*sz,cap-E,λ_ _=>noF,rfl,by omega,by omega,(λh=>by cases h),λi k hi' Y=>?_,λ_=>⟨λhp=>?_,λ_ _ _ _ _ h=>h,λ_ h=>h⟩,λh=>by cases h⟩
     .obtain⟨_,y,hy,hry⟩:=hc (i+E) k (by omega) Y
      exact⟨y,by rw[<-hy];congr 2;rw[Nat.add_mul];omega,hry⟩
     .have hp1:0<B-E:=Nat.pos_of_mul_pos_right hp
      have hp2:0<sz:=Nat.pos_of_mul_pos_left hp;exact(hc E 0 (by omega) hp2).1
  .exact h.elim
 .rename_i size id p off len Y
  obtain⟨e,i0,hu,O,his⟩:=hsl _ Y;split at h
  .rename_i l h' L M
   obtain⟨hns,⟨Z,h2,h3⟩,hK⟩:=h;have e1:=IU L hlo;have W:=IU M hhi;obtain⟨E,rfl⟩:=Int.eq_ofNat_of_zero_le Z;obtain⟨B,rfl⟩:=Int.eq_ofNat_of_zero_le (Int.le_trans Z h2);simp only[tNC]at*;obtain⟨⟨hid,sz,n,f,cn,ha,hle,A⟩,_⟩:=hr;have hns':A6 σ id p=sz:=by unfold A6;rw[<-At.sub ha]
   rw[hns']at hns;rcases A with⟨b,o',cap,rfl,A⟩|⟨h0,ad,A⟩
   .have hcap:n<=cap:=by
     obtain⟨fp1,hr1,_⟩:=Dg (w':=w) p _ _ _ _ _ (wr.rel id hid) (λb hb h=>wr.dD id b h hb) ha
     rcases hr1 with⟨_,_,h3,_⟩|⟨b2,o2,cap2,F2,hcv2,hcap2,_⟩
     .exact absurd h3 BQ
     .have:=(Az hcv2).2.2 rfl;omega
    refine⟨_,hK,Av.pure wr (U _ (by rw[A];exact DS hu O _ len (cap-off) _ _ E B e1 W (by omega) (by omega))) ⟨⟨hid,sz,n,f,_,ha,by omega,?_⟩,λ_ h=>h⟩⟩
    by_cases J:cap-off=E
    .rw[if_pos J]
     exact .inr ⟨by omega,some (b,o'+off*sz),by rw[show B-E=0 by omega,show cap-off-E=0 by omega];rfl,λe1 W=>by
      obtain rfl:off=0:=by omega
      obtain rfl:E=0:=by omega
      simp only[AD,if_true,Value.slice.injEq];refine⟨by simp,by omega,by omega⟩,λp e=>by
      cases e;exact⟨o',cap,rfl,Nat.le_add_right _ _,Nat.add_le_add_left (Nat.mul_le_mul_right _ (by omega)) _⟩⟩
    .rw[if_neg J]
     refine .inl ⟨b,o',cap,rfl,?_⟩;simp only[Option.map_some];rw[A9 rfl,his,<-hns];simp only[Nat.add_mul,Nat.add_assoc,Nat.sub_sub]
   .obtain⟨A,hfull,hab⟩:=A
    subst h0;have hl0:E=0:=by omega
    have hh0:B=0:=by omega
    subst hl0;subst hh0;refine⟨_,hK,Av.pure wr (U _ (by rw[A];exact DS hu O _ 0 0 _ _ 0 0 e1 W (Nat.le_refl _) (Nat.le_refl _))) ⟨⟨hid,sz,n,f,cn,ha,by omega,.inr ⟨rfl,ad,rfl,(λe1 W=>by rw[<-hfull (by omega) W,A]),hab⟩⟩,λ_ h=>h⟩⟩
  .exact h.elim
 .exact h.elim
end ops
end Go.Ve

