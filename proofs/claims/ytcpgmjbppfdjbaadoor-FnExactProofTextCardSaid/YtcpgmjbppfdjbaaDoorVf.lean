/- The quiet operations of the small machine: slices of slices and of texts, new memory. -/
import Derived.Test.YtcpgmjbppfdjbaaDoorVe
namespace Go.Ve
variable{n sz:Nat}{f:Nat->Nat->V}{fp:Nat->Prop}{t:TypeId}{R:V->Value->Prop}{cv:Value}
section ops
variable {P:Program} {o:Oper} {a:Act} {w:World} {σ:List V} {D:Nat->Prop} {ρ:Nat->Value} {F:Nat->Nat->Prop} {K:V->Prop}
theorem Rel.nd_R{R':V->Value->Prop}{s own:Bool}(h:Rel D w R (.nd s own sz n f) cv fp):Rel D w R' (.nd s own sz n f) cv fp:=h
def bnd(d:Int):Option V->Option Int
 |none=>some d
 |some (.c (.int _ i))=>some i
 |_=>none
def Zb(d:Int):Option Value->Option Int
 |none=>some d
 |some (.int _ i)=>some i
 |_=>none
theorem Df(isS:Bool)(len cap:Nat)(lo hi:Option Value)(l h:Nat)(hl:Zb 0 lo=some (l:Int))(hh:Zb len hi=some (h:Int))(h1:l<=h)(h2:h<=cap):
  (Instr.sliceBounds isS len cap lo hi none).run P w= .ok (l,h,cap) w:=by
 have hb: ∀ (k:IntKind) (i y:Nat) c,i<=y->(Instr.sliceBound (.int k i) y c).run P w= .ok i w:=by
  intro k i y c hi;simp [Instr.sliceBound,asIntOf,hi]
 unfold Zb at hl hh;split at hl<;>split at hh<;>simp at hl hh
 ·obtain rfl:l=0:=by omega
  obtain rfl:len=h:=by omega
  rfl
 ·obtain rfl:l=0:=by omega
  subst hh;simp [Instr.sliceBounds,hb _ _ _ _ h2]
 ·obtain rfl:len=h:=by omega
  subst hl;simp [Instr.sliceBounds,hb _ _ _ _ h1]
 ·subst hl;subst hh;simp [Instr.sliceBounds,hb _ _ _ _ h1,hb _ _ _ _ h2]
theorem Dg{e:TypeId}{i:TypeInfo}(hu:P.underlying t=some (.slice e))(hi:P.info? e=some i)(ad:Option Addr)(len cap:Nat)(lo hi':Option Value)(l h:Nat)(hl:Zb 0 lo=some (l:Int))(hh:Zb len hi'=some (h:Int))(h1:l<=h)(h2:h<=cap):
  (Instr.sliceAt t (.slice ad len cap) lo hi' none).run P w= .ok (.slice (if cap=l then ad else ad.map (·.add (l*i.size))) (h-l) (cap-l)) w:=by
 simp [Instr.sliceAt,Instr.slice,run_underlying hu,Df true len cap lo hi' l h hl hh h1 h2,sizeOf,typeInfo,hi]
theorem MU(hu:P.underlying t=some .string)(s:ByteArray)(lo hi:Option Value)(l h:Nat)(hl:Zb 0 lo=some (l:Int))(hh:Zb s.size hi=some (h:Int))(h1:l<=h)(h2:h<=s.size):
  (Instr.sliceAt t (.string s) lo hi none).run P w= .ok (.string (s.extract l h)) w:=by
 simp [Instr.sliceAt,Instr.slice,run_underlying hu,Df false s.size s.size lo hi l h hl hh h1 h2]
inductive SlK where
 |string|slice (size:Nat)|other
def slK(P:Program)(t:TypeId):SlK:=match P.underlying t with
 |some .string=>.string
 |some (.slice e)=>match P.info? e with
  |some i=>.slice i.size
  |none=>.other
 |_=>.other
def Kw(k:SlK)(σ:List V)(x:V)(lo hi:Option V)(K:V->Prop):Prop:=
 match k,x with
 | .string,.c (.string s)=>match bnd 0 lo,bnd s.size hi with
  |some l,some h=>(0<=l/\l<=h/\h<=s.size)/\K (.c (.string (s.extract l.toNat h.toNat)))
  |_,_=>False
 | .slice size,.nd true false sz n f=>match bnd 0 lo,bnd n hi with
  |some l,some h=>sz=size/\(0<=l/\l<=h/\h<=n)/\K (.nd true false sz (h.toNat-l.toNat) λi k=>f (i+l.toNat) k)
  |_,_=>False
 | .slice size,.rs id p off len=>match bnd 0 lo,bnd len hi with
  |some l,some h=>AS σ id p=size/\(0<=l/\l<=h/\h<=len)/\K (.rs id p (off+l.toNat) (h.toNat-l.toNat))
  |_,_=>False
 |_,_=>False
def OptR(σ:List V)(w:World)(D:Nat->Prop)(ρ:Nat->Value)(F:Nat->Nat->Prop):Option V->Option Value->Prop
 |none,none=>True
 |some v,some c=>OpR σ w D ρ F v c
 |_,_=>False
theorem Ib{d:Int}{lo:Option V}{l:Int}{lc:Option Value}(h:bnd d lo=some l)(hr:OptR σ w D ρ F lo lc):Zb d lc=some l:=by
 unfold bnd at h;split at h
 ·cases lc with
  |none=>exact h
  |some c=>trivial
 ·cases lc with
  |none=>trivial
  |some c=>obtain⟨_,hr,_⟩:=hr;obtain rfl:=hr.1;exact h
 grind
theorem NH(h:Rel D w R (.nd true false sz n f) cv fp):
  ∃ (ad:Option Addr) (cap:Nat),cv= .slice ad n cap/\n<=cap/\n<=maxLen/\((n=0/\cap=0/\nilS (.slice ad 0 0))\/∃b o,ad=some ⟨b,o,none⟩/\
   ∀i k,i<n->k<sz->D b/\∃x,w.cell? ⟨b,o+i*sz+k,none⟩=some x/\Rel D w noR (f i k) x noF):=by
 rcases h with⟨rfl,_,hn0,_⟩|⟨b,o,cap,F,hcv,hcap,hmax,hs,hr,hi,_⟩
 ·rcases hn0 with rfl|⟨_,hn0⟩
  ·exact⟨none,0,rfl,Nat.le_refl _,Nat.zero_le _,.inl ⟨rfl,rfl,V5⟩⟩
  ·obtain⟨a,rfl,ha⟩:=hn0
   exact⟨a,0,rfl,Nat.le_refl _,Nat.zero_le _,.inl ⟨rfl,rfl,a,rfl,ha⟩⟩
 ·obtain⟨h1,h2,h3⟩:=hi rfl
  refine⟨some ⟨b,o,none⟩,cap,hcv,hcap,hmax,.inr ⟨b,o,rfl,λi k hi' hk=>⟨h1 (Nat.mul_pos (by omega) (by omega)),?_⟩⟩⟩
  obtain⟨x,hx,hrx⟩:=hr i k hi' hk;exact⟨x,hx,AY (h2 i k · hi' hk)▸hrx⟩
theorem M2(wr:Bj σ w D ρ F){v:V}{x:Operand}{lo hi:Option Operand}{vlo vhi:Option V}(ho:o.op= .slice t x lo hi none)(hv:OpR σ w D ρ F v (a.eval x))
  (hlo:OptR σ w D ρ F vlo (lo.map a.eval)) (hhi:OptR σ w D ρ F vhi (hi.map a.eval))
  (h:Kw (slK P t) σ v vlo vhi K): ∃r,K r/\Ak P o a w σ D ρ r:=by
 unfold Kw at h;obtain⟨fp,hr,_⟩:=hv
 have hex: ∀z,(Instr.sliceAt t (a.eval x) (lo.map a.eval) (hi.map a.eval) none).run P w= .ok z w->(execOp a.eval o).run P w= .ok (.value z) w:=by
  intro z hz;unfold execOp;rw [ho];simp [hz]
 have hstr:slK P t= .string->P.underlying t=some .string:=by
  intro h;unfold slK at h;split at h<;>first|assumption|(split at h<;>cases h)|cases h
 have hsl: ∀size,slK P t= .slice size->∃e i,P.underlying t=some (.slice e)/\P.info? e=some i/\i.size=size:=by
  intro size h;unfold slK at h;split at h
  ·cases h
  ·split at h
   ·cases h;exact⟨_,_,by assumption,by assumption,rfl⟩
   ·cases h
  ·cases h
 split at h
 ·rename_i s hk
  split at h
  ·rename_i l h' hbl hbh
   obtain⟨⟨h1,h2,h3⟩,hK⟩:=h;have e1:=Ib hbl hlo;have e2:=Ib hbh hhi;obtain⟨l',rfl⟩:=Int.eq_ofNat_of_zero_le h1;obtain⟨h'',rfl⟩:=Int.eq_ofNat_of_zero_le (Int.le_trans h1 h2);refine⟨_,hK,Ak.pure wr (hex _ ?_) ⟨rfl,rfl,λ_ h=>h⟩⟩
   rw [hr.1];exact MU (hstr hk) s _ _ l' h'' e1 e2 (by omega) (by omega)
  ·exact h.elim
 ·rename_i size sz n f hk
  obtain⟨e,i0,hu,hi0,his⟩:=hsl _ hk;split at h
  ·rename_i l h' hbl hbh
   obtain⟨rfl,⟨h1,h2,h3⟩,hK⟩:=h;have e1:=Ib hbl hlo;have e2:=Ib hbh hhi;obtain⟨l',rfl⟩:=Int.eq_ofNat_of_zero_le h1;obtain⟨h'',rfl⟩:=Int.eq_ofNat_of_zero_le (Int.le_trans h1 h2);obtain⟨ad,cap,hcv,hcap,hmax,hc⟩:=NH hr;refine⟨_,hK,Ak.pure wr (hex _ (by rw [hcv];exact Dg hu hi0 ad n cap _ _ l' h'' e1 e2 (by omega) (by omega))) ?_⟩
   simp only [tNC]at*;rcases hc with⟨rfl,rfl,hn0⟩|⟨b,o',rfl,hc⟩
   ·obtain rfl:l'=0:=by omega
    obtain rfl:h''=0:=by omega
    exact .inl ⟨by omega,rfl,.inr ⟨rfl,by simpa using hn0⟩,λ_ h=>h⟩
   ·by_cases hcl:cap=l'
    ·rw [if_pos hcl]
     refine .inr ⟨b,o',cap-l',λ_ _=>noF,rfl,by omega,by omega,(λh=>by cases h),λi k hi' hk=>by omega,λ_=>⟨λhp=>?_,λ_ _ _ _ _ h=>h,λ_ h=>h⟩,λh=>by cases h⟩
     have:h''-l'=0:=by omega
     rw [this]at hp;omega
    ·rw [if_neg hcl]
     simp only [Option.map_some];rw [AT rfl,his];refine .inr ⟨b,o'+l'*sz,cap-l',λ_ _=>noF,rfl,by omega,by omega,(λh=>by cases h),λi k hi' hk=>?_,λ_=>⟨λhp=>?_,λ_ _ _ _ _ h=>h,λ_ h=>h⟩,λh=>by cases h⟩
     ·obtain⟨_,y,hy,hry⟩:=hc (i+l') k (by omega) hk
      exact⟨y,by rw [<-hy];congr 2;rw [Nat.add_mul];omega,hry⟩
     ·have hp1:0<h''-l':=Nat.pos_of_mul_pos_right hp
      have hp2:0<sz:=Nat.pos_of_mul_pos_left hp;exact(hc l' 0 (by omega) hp2).1
  ·exact h.elim
 ·rename_i size id p off len hk
  obtain⟨e,i0,hu,hi0,his⟩:=hsl _ hk;split at h
  ·rename_i l h' hbl hbh
   obtain⟨hns,⟨h1,h2,h3⟩,hK⟩:=h;have e1:=Ib hbl hlo;have e2:=Ib hbh hhi;obtain⟨l',rfl⟩:=Int.eq_ofNat_of_zero_le h1;obtain⟨h'',rfl⟩:=Int.eq_ofNat_of_zero_le (Int.le_trans h1 h2);simp only [tNC]at*;obtain⟨⟨hid,sz,n,f,cn,ha,hle,hcv⟩,_⟩:=hr;have hns':AS σ id p=sz:=by unfold AS;rw [<-At.sub ha]
   rw [hns']at hns;rcases hcv with⟨b,o',cap,rfl,hcv⟩|⟨h0,ad,hcv⟩
   ·have hcap:n<=cap:=by
     obtain⟨fp1,hr1,_⟩:=Dt (w':=w) p _ _ _ _ _ (wr.rel id hid) (λb hb h=>wr.dD id b h hb) ha
     rcases hr1 with⟨_,_,h3,_⟩|⟨b2,o2,cap2,F2,hcv2,hcap2,_⟩
     ·exact absurd h3 By
     ·have:=(Ap hcv2).2.2 rfl;omega
    refine⟨_,hK,Ak.pure wr (hex _ (by rw [hcv];exact Dg hu hi0 _ len (cap-off) _ _ l' h'' e1 e2 (by omega) (by omega))) ⟨⟨hid,sz,n,f,_,ha,by omega,?_⟩,λ_ h=>h⟩⟩
    by_cases hcl:cap-off=l'
    ·rw [if_pos hcl]
     exact .inr ⟨by omega,some (b,o'+off*sz),by rw [show h''-l'=0 by omega,show cap-off-l'=0 by omega];rfl,λe1 e2=>by
      obtain rfl:off=0:=by omega
      obtain rfl:l'=0:=by omega
      simp only [As,if_true,Value.slice.injEq];refine⟨by simp,by omega,by omega⟩,λp e=>by
      cases e;exact⟨o',cap,rfl,Nat.le_add_right _ _,Nat.add_le_add_left (Nat.mul_le_mul_right _ (by omega)) _⟩⟩
    ·rw [if_neg hcl]
     refine .inl ⟨b,o',cap,rfl,?_⟩;simp only [Option.map_some];rw [AT rfl,his,<-hns];simp only [Nat.add_mul,Nat.add_assoc,Nat.sub_sub]
   ·obtain⟨hcv,hfull,hab⟩:=hcv
    subst h0;have hl0:l'=0:=by omega
    have hh0:h''=0:=by omega
    subst hl0;subst hh0;refine⟨_,hK,Ak.pure wr (hex _ (by rw [hcv];exact Dg hu hi0 _ 0 0 _ _ 0 0 e1 e2 (Nat.le_refl _) (Nat.le_refl _))) ⟨⟨hid,sz,n,f,cn,ha,by omega,.inr ⟨rfl,ad,rfl,(λe1 e2=>by rw [<-hfull (by omega) e2,hcv]),hab⟩⟩,λ_ h=>h⟩⟩
  ·exact h.elim
 ·exact h.elim
end ops
end Go.Ve

