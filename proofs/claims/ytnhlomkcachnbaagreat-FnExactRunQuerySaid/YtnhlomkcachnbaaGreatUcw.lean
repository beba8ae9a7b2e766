/- slices.CompactFunc: what it computes, and its walk. -/
import Derived.Test.YtnhlomkcachnbaaGreatProg
import Derived.Shelf.SlSortCmp.Whole1
import Derived.Lib.SliceRun
import Derived.Lib.SlicesCompact
import Derived.Test.YtnhlomkcachnbaaGreatUso
namespace Go.Ve
open Go Go.Proofs Go.Shelf Go.RowKit Go.Lib Go.Sort
section
variable {α:Type} [Inhabited α]
def kpE(eb:α->α->Bool)(d:Array α)(j:Nat):Bool:=decide (j=0)|| !eb d[j]! d[j-1]!
def cpE(eb:α->α->Bool)(d:Array α)(m:Nat):List α:=((List.range m).filter (kpE eb d)).map (d[·]!)
theorem Wg{eb:α->α->Bool}{d:Array α}: ∀j,j<1->kpE eb d j=true:=by
 intro j hj;have:j=0:=by omega
 subst this;rfl
theorem Wf{eb:α->α->Bool}{d:Array α}{m:Nat}(h:eb d[m]! d[m-1]! =false):kpE eb d m=true:=by unfold kpE;rw [h];simp
theorem Wh{eb:α->α->Bool}{d:Array α}{m:Nat}(hm:0<m)(h:eb d[m]! d[m-1]! =true):kpE eb d m=false:=by
 unfold kpE;rw [h,dF (by omega)];rfl
theorem DP(eb:α->α->Bool)(d:Array α)(m:Nat):cpE eb d (m+1)=cpE eb d m++(if kpE eb d m then [d[m]!]else []):=by
 unfold cpE;rw [List.range_succ,List.filter_append,List.map_append]
 congr 1
 by_cases h:kpE eb d m<;>simp [h]
theorem O5(eb:α->α->Bool)(d:Array α)(m:Nat)(h: ∀j,j<m->kpE eb d j=true):cpE eb d m=(List.range m).map (d[·]!):=by
 unfold cpE;rw [List.filter_eq_self.2 (fun j hj=>h j (List.mem_range.1 hj))]
structure Qs(eb:α->α->Bool)(d:Array α)(m k:Nat)(dk:Array α):Prop where
 size:dk.size=d.size
 len:(cpE eb d m).length=k
 lt:k<m
 low: ∀j,j<k->(cpE eb d m)[j]? =some dk[j]!
 high: ∀j,k<=j->dk[j]! =d[j]!
theorem Qs.start{eb:α->α->Bool}{d:Array α}{k0:Nat}(hall: ∀j,j<k0->kpE eb d j=true)(hdup:kpE eb d k0=false):Qs eb d (k0+1) k0 d where
 size:=rfl
 len:=by rw [DP,hdup,O5 eb d k0 hall];simp
 lt:=Nat.lt_succ_self _
 low:=fun j hj=>by rw [DP,hdup,O5 eb d k0 hall];simp [hj]
 high:=fun _ _=>rfl
theorem Qs.keep{eb:α->α->Bool}{d dk:Array α}{m k:Nat}(h:Qs eb d m k dk)(hm:m<d.size)(hk:kpE eb d m=true):Qs eb d (m+1) (k+1) (dk.setIfInBounds k d[m]!) where
 size:=by simp [h.size]
 len:=by rw [DP,hk];simp [h.len]
 lt:=by have:=h.lt;omega
 low:=fun j hj=>by
  rw [DP,hk,if_pos rfl];by_cases e:j=k
  ·subst e
   rw [gAR (by rw [h.len];exact Nat.le_refl _),h.len,Nat.sub_self,getElem!_set_same dk j _ (by have:=h.lt;have:=h.size;omega)]
   rfl
  ·rw [gAL (by rw [h.len];omega),h.low j (by omega),getElem!_set_other dk k j _ e]
 high:=fun j hj=>by rw [getElem!_set_other dk k j _ (by omega),h.high j (by omega)]
theorem Qs.skip{eb:α->α->Bool}{d dk:Array α}{m k:Nat}(h:Qs eb d m k dk)(hk:kpE eb d m=false):Qs eb d (m+1) k dk where
 size:=h.size
 len:=by rw [DP,hk];simpa using h.len
 lt:=by have:=h.lt;omega
 low:=fun j hj=>by rw [DP,hk];simpa using h.low j hj
 high:=h.high
theorem Qs.done{eb:α->α->Bool}{d dk:Array α}{k:Nat}(h:Qs eb d d.size k dk)(z:α):Go.Lib.lay dk k (List.replicate (d.size-k) z)=(cpE eb d d.size++List.replicate (d.size-k) z).toArray:=by
 have hlt:=h.lt;have hsz:=h.size;apply Array.ext_getElem?;intro j;rw [Go.Lib.lay_get? _ _ _ _ (by simp;omega)]
 simp only [List.length_replicate,List.getElem?_toArray];by_cases c:j<k
 ·rw [if_neg (by omega),gAL (by rw [h.len];exact c),h.low j c]
  rw [getElem!_pos dk j (by omega),Array.getElem?_eq_getElem (by omega)]
 ·rw [gAR (by rw [h.len];omega),h.len]
  by_cases c2:j<d.size
  ·rw [if_pos (by omega)]
  ·rw [if_neg (by omega),Array.getElem?_eq_none (by omega),List.getElem?_eq_none (by simp;omega)]
def Xb(P:Program)(g:Nat)(cb:Array Value)(enc:α->Value)(eb:α->α->Bool)(blk off size:Nat)(w:World):Prop:=
 ∀ (m:Nat) (os:Array Obj) (dk:Array α),dk.size=size->∀x y:α,
  Calls P g (#[enc x,enc y]++cb) (sortWorld enc w blk off m dk os) fun e w'=>e= .returned (.bool (eb x y))/\∃q os',w'=grow ((sortWorld enc w blk off m dk os).drewN q) os'
theorem Qq{P:Program}{enc:α->Value}{w0 W:World}{blk off:Nat}{dk:Array α}{g:Nat}{cb:Array Value}{eb:α->α->Bool}{size:Nat}(h:SW enc w0 blk off dk W)(hC:Xb P g cb enc eb blk off size w0)(hs:dk.size=size)(x y:α)(n:Nat)(os:Array Obj):
  Calls P g (#[enc x,enc y]++cb) (grow (W.drewN n) os) fun e w'=>e= .returned (.bool (eb x y))/\∃q os',w'=grow ((grow (W.drewN n) os).drewN q) os':=by
 obtain⟨m,os0,hw⟩:=h.grown n os;rw [hw];exact hC m os0 dk hs x y
end
end Go.Ve


namespace Go.Ve
open Go Go.Proofs Go.Shelf Go.RowKit Go.Lib Go.Sort
variable {α:Type} [Inhabited α]
theorem Zs{enc:α->Value}{w0 W:World}{blk off:Nat}{dk:Array α}(h:SW enc w0 blk off dk W)(hblk:blk<w0.heap.size)(i:Nat)(hi:i<dk.size)(x:α):SW enc w0 blk off (dk.setIfInBounds i x) (W.setCell ⟨blk,off+i,none⟩ (enc x)):=by
 obtain⟨n,os,rfl⟩:=h;refine⟨n,os,?_⟩;unfold sortWorld;rw [setCell_grow _ _ _ _ _ (by simpa using hblk),putRow_set enc _ blk off dk i x hi]
theorem Zt{enc:α->Value}{w0:World}{blk off:Nat}(hblk:blk<w0.heap.size): ∀ (xs:List α) (dk:Array α) (k:Nat) (W:World),SW enc w0 blk off dk W->k+xs.length<=dk.size->SW enc w0 blk off (Go.Lib.lay dk k xs) (W.setCells blk (off+k) (xs.map enc))
 | [],_,_,_,h,_=>h
 |x::r,dk,k,W,h,hl=>by
  have hl:k+(r.length+1)<=dk.size:=by simpa using hl
  simp only [List.map_cons,World.setCells,Go.Lib.lay];have:=Zt hblk r _ (k+1) _ (Zs h hblk k (by omega) x) (by simp;omega)
  rw [show off+k+1=off+(k+1) by omega]
  exact this
set_option maxHeartbeats 4000000 in
set_option maxRecDepth 1000000 in
theorem IB(enc:α->Value)(eb:α->α->Bool)(g:Nat)(blk off cap:Nat)(d:Array α)(w:World)
  (eg: ∀args w,(callFunc g args).run Tryz.prog w= .ok (.enter g args) w) (hE:Xb Tryz.prog g #[] enc eb blk off d.size w) (R:Row1 enc w blk off d) (zr:α) (hz:enc zr= .slice none 0 0) (hsz:d.size<4611686018427387904) (hcap:d.size<=cap):
  Calls Tryz.prog 49 #[.slice (some ⟨blk,off,none⟩) d.size cap,.func (.func g) #[] #[]] w fun e w'=>e= .returned (.slice (some ⟨blk,off,none⟩) (cpE eb d d.size).length cap)/\SW enc w blk off (cpE eb d d.size++List.replicate (d.size-(cpE eb d d.size).length) zr).toArray w':=by
 have mixed:Tryz.prog.follows .mixedOrders=true:=by kernel_rfl
 have hcl0:=R.hO.cells;simp only [Value.cells]at hcl0;have hst:=R.hO.store Tryz.prog
 have same:(∀j,j<d.size->kpE eb d j=true)->(cpE eb d d.size).length=d.size/\(cpE eb d d.size++List.replicate (d.size-(cpE eb d d.size).length) zr).toArray=d:=by
  intro hall;have e:cpE eb d d.size=d.toList:=by rw [O5 eb d _ hall,range_map_get]
  rw [e];refine⟨by simp,?_⟩
  simp only [Array.length_toList,Nat.sub_self,List.replicate_zero,List.append_nil,Array.toArray_toList]
 have HS:Aside ((∀j,j<d.size->kpE eb d j=true)->(cpE eb d d.size).length=d.size/\(cpE eb d d.size++List.replicate (d.size-(cpE eb d d.size).length) zr).toArray=d):=same;clear same;have HC:Aside _:=hE;clear hE;have S0:Aside (SW enc w blk off d w):=SW.start R.hH;by_cases h2:d.size<2
 ·go_enter Tryz.func49,(show Tryz.f49.ntmps=66 from rfl)
  go_wp2
  go_ret
  obtain⟨e1,e2⟩:=HS.out (fun j hj=>Wg j (by omega))
  exact⟨by rw [e1];rfl,by rw [e2];exact S0.out⟩
 ·go_enter Tryz.func49,(show Tryz.f49.ntmps=66 from rfl)
  go_wp2
  go_loopg [5] d.size (fun g1 s5 wr=>∃kp:Nat,kp+1<=d.size/\d.size-(kp+1)<=g1/\s5= .int .i64 ((kp+1:Nat):Int)/\Aside (SW enc w blk off d wr)/\Hid (∀j,j<kp+1->kpE eb d j=true))
  case atStart=>exact⟨0,by omega,by omega,rfl,S0,Wg⟩
  case round=>
   clear S0;obtain⟨kp,hk,hg,rfl,S1,hall⟩:=hrel;by_cases hlt:kp+1<d.size
   ·have hltz:(kp:Int)+1<(d.size:Int):=by omega
    cases hdup:eb d[kp+1]! d[kp]! with
    |true=>
     obtain⟨iN,hiN⟩: ∃q,q=kp+1:=⟨_,rfl⟩;obtain⟨jN,hjN⟩: ∃q,q=kp:=⟨_,rfl⟩;have ea:((kp:Int)+1).toNat=iN:=by omega
     have pa:(0:Int)<=(kp:Int)+1:=by omega
     have ra:IntKind.i64.wrap ((kp:Int)+1)=(kp:Int)+1:=by rw [IntKind.wrap_i64];omega
     have ec:((kp:Int)).toNat=jN:=by omega
     have pc:(0:Int)<=(kp:Int):=by omega
     have bc:(kp:Int)<(d.size:Int):=by omega
     have rc:IntKind.i64.wrap ((kp:Int))=(kp:Int):=by rw [IntKind.wrap_i64];omega
     obtain⟨x,hx⟩: ∃x,x=d[kp+1]!:=⟨_,rfl⟩;obtain⟨y,hy⟩: ∃x,x=d[kp]!:=⟨_,rfl⟩;have la:=S1.out.cl R rfl (kp+1) (by omega)
     have lb:=S1.out.cl R rfl kp (by omega)
     rw [<-hx,<-hiN]at la;rw [<-hy,<-hjN]at lb;have hc:=Qq S1.out HC.out rfl x y;have hd:eb x y=true:=by rw [hx,hy];exact hdup
     simp only [hd]at hc;clear hx hy hiN hjN hd
     go_wp2_with fail
     go_quiet_grown (first|(go_at_fn g;refine Calls.grown_of (hc _ _)))
     have S2:Aside (SW enc w blk off d (grow (wr.drewN nq) osq)):=S1.out.grown nq osq;clear la lb hc S1;generalize grow (wr.drewN nq) osq=w2 at S2⊢;clear nq osq;clear ea ec pa ra pc bc rc hltz;obtain⟨k,hk'⟩: ∃k,k=kp+1:=⟨_,rfl⟩;have zk:((kp:Int)+1)=((k:Nat):Int):=by omega
     rw [zk];have I0:Hid (Qs eb d (k+1) k d):=(show Hid _ from by rw [hk'];exact Qs.start hall.out (Wh (by omega) hdup))
     have hlt:k<d.size:=by omega
     clear zk hk' hall hdup
     go_wp2
     go_loopg [5,7] d.size (fun g2 s5 s7 wr2=>∃ (kk k2:Nat) (dk:Array α),s5= .int .i64 (kk:Int)/\s7= .int .i64 ((k2+1:Nat):Int)/\k+(k2+1)<=d.size/\d.size-(k+(k2+1))<=g2/\Aside (SW enc w blk off dk wr2)/\Aside (Qs eb d (k+(k2+1)) kk dk))
     case atStart=>exact⟨k,0,d,rfl,rfl,by omega,by omega,S2,I0⟩
     case round=>
      clear S2 I0;obtain⟨kk,k2,dk,rfl,rfl,hle,hg2,S1,I1⟩:=hrel;by_cases hlt2:k+(k2+1)<d.size
      ·cases hdup:eb d[k+(k2+1)]! d[k+k2]! with
       |true=>
        obtain⟨iN,hiN⟩: ∃q,q=k2+1:=⟨_,rfl⟩;obtain⟨jN,hjN⟩: ∃q,q=k2:=⟨_,rfl⟩;have ea:((k2:Int)+1).toNat=iN:=by omega
        have pa:(0:Int)<=(k2:Int)+1:=by omega
        have ba:(k2:Int)+1<((d.size-k:Nat):Int):=by omega
        have ra:IntKind.i64.wrap ((k2:Int)+1)=(k2:Int)+1:=by rw [IntKind.wrap_i64];omega
        have ec:((k2:Int)).toNat=jN:=by omega
        have pc:(0:Int)<=(k2:Int):=by omega
        have bc:(k2:Int)<((d.size-k:Nat):Int):=by omega
        have rc:IntKind.i64.wrap ((k2:Int))=(k2:Int):=by rw [IntKind.wrap_i64];omega
        obtain⟨x,hx⟩: ∃x,x=d[k+(k2+1)]!:=⟨_,rfl⟩;obtain⟨y,hy⟩: ∃x,x=d[k+k2]!:=⟨_,rfl⟩;have hds:=I1.out.size;have hkk:=I1.out.lt;have la:=S1.out.cl R hds (k+(k2+1)) (by omega)
        have lb:=S1.out.cl R hds (k+k2) (by omega)
        rw [I1.out.high _ (by omega),<-hx,show off+(k+(k2+1))=off+k+(k2+1) by omega,<-hiN]at la
        rw [I1.out.high _ (by omega),<-hy,show off+(k+k2)=off+k+k2 by omega,<-hjN]at lb
        have hc:=Qq S1.out HC.out hds x y;have hd:eb x y=true:=by rw [hx,hy];exact hdup
        simp only [hd]at hc;clear hx hy hiN hjN hd
        go_wp2_with fail
        go_quiet_grown (first|(go_at_fn g;refine Calls.grown_of (hc _ _)))
        have S2:Aside (SW enc w blk off dk (grow (wr.drewN nq) osq)):=S1.out.grown nq osq;clear la lb hc S1;generalize grow (wr.drewN nq) osq=w3 at S2⊢;clear nq osq;clear ea pa ba ra ec pc bc rc
        go_wp2
        go_roundg (d.size-(k+(k2+1+1)))
        case measure=>omega
        case rel=>exact⟨kk,k2+1,dk,rfl,by first|rfl|go_num,by omega,Nat.le_refl _,S2,(show Aside _ from I1.out.skip (Wh (by omega) hdup))⟩
       |false=>
        obtain⟨iN,hiN⟩: ∃q,q=k2+1:=⟨_,rfl⟩;obtain⟨jN,hjN⟩: ∃q,q=k2:=⟨_,rfl⟩;have ea:((k2:Int)+1).toNat=iN:=by omega
        have pa:(0:Int)<=(k2:Int)+1:=by omega
        have ba:(k2:Int)+1<((d.size-k:Nat):Int):=by omega
        have ra:IntKind.i64.wrap ((k2:Int)+1)=(k2:Int)+1:=by rw [IntKind.wrap_i64];omega
        have ec:((k2:Int)).toNat=jN:=by omega
        have pc:(0:Int)<=(k2:Int):=by omega
        have bc:(k2:Int)<((d.size-k:Nat):Int):=by omega
        have rc:IntKind.i64.wrap ((k2:Int))=(k2:Int):=by rw [IntKind.wrap_i64];omega
        obtain⟨x,hx⟩: ∃x,x=d[k+(k2+1)]!:=⟨_,rfl⟩;obtain⟨y,hy⟩: ∃x,x=d[k+k2]!:=⟨_,rfl⟩;have hds:=I1.out.size;have hkk:=I1.out.lt;have la:=S1.out.cl R hds (k+(k2+1)) (by omega)
        have lb:=S1.out.cl R hds (k+k2) (by omega)
        rw [I1.out.high _ (by omega),<-hx,show off+(k+(k2+1))=off+k+(k2+1) by omega,<-hiN]at la
        rw [I1.out.high _ (by omega),<-hy,show off+(k+k2)=off+k+k2 by omega,<-hjN]at lb
        have hc:=Qq S1.out HC.out hds x y;have hd:eb x y=false:=by rw [hx,hy];exact hdup
        simp only [hd]at hc;clear hx hy hiN hjN hd
        go_wp2_with fail
        go_quiet_grown (first|(go_at_fn g;refine Calls.grown_of (hc _ _)))
        have S2:Aside (SW enc w blk off dk (grow (wr.drewN nq) osq)):=S1.out.grown nq osq;clear la lb hc S1;generalize grow (wr.drewN nq) osq=w3 at S2⊢;clear nq osq;clear ea pa ba ra ec pc bc rc;have hkk':kk<d.size:=by omega
        have hkz:(kk:Int)<(d.size:Int):=by omega
        have hkp:(0:Int)<=(kk:Int):=by omega
        obtain⟨iM,hiM⟩: ∃q,q=k2+1:=⟨_,rfl⟩;have ea:((k2:Int)+1).toNat=iM:=by omega
        have pa:(0:Int)<=(k2:Int)+1:=by omega
        have ba:(k2:Int)+1<((d.size-k:Nat):Int):=by omega
        have ra:IntKind.i64.wrap ((k2:Int)+1)=(k2:Int)+1:=by rw [IntKind.wrap_i64];omega
        have cx:=S2.out.c1 R hds (k+(k2+1)) (by omega)
        have ck:=S2.out.c1 R hds kk (by omega)
        have fk:=S2.out.f1 R hds kk (by omega)
        obtain⟨x',hx'⟩: ∃x,x=d[k+(k2+1)]!:=⟨_,rfl⟩;rw [I1.out.high _ (by omega),<-hx',show off+(k+(k2+1))=off+k+(k2+1) by omega,<-hiM]at cx
        generalize dk[kk]! =old at ck;have S3:Aside (SW enc w blk off (dk.setIfInBounds kk x') (w3.setCell ⟨blk,off+kk,none⟩ (enc x'))):=Zs S2.out R.hblk kk (by omega) x'
        have I2:Aside (Qs eb d (k+(k2+1)+1) (kk+1) (dk.setIfInBounds kk x')):=by rw [hx'];exact I1.out.keep hlt2 (Wf hdup)
        clear S2 hiM hx' hdup I1
        go_wp2_with fail
        generalize w3.setCell ⟨blk,off+kk,none⟩ (enc x')=w4 at S3⊢
        go_roundg (d.size-(k+(k2+1+1)))
        case measure=>omega
        case rel=>exact⟨kk+1,k2+1,dk.setIfInBounds kk x',by first|rfl|go_num,by first|rfl|go_num,by omega,Nat.le_refl _,S3,I2⟩
      ·have hend:k+(k2+1)=d.size:=by omega
       have hI:=I1.out;rw [hend]at hI;have hds:=hI.size;have hkk:=hI.lt;have hlen:=hI.len;have hdone:=hI.done zr
       have hcl: ∀ty,(Builtin.clear_ #[23] ty #[.slice (some ⟨blk,off+kk,none⟩) (d.size-kk) (cap-kk)]).run Tryz.prog wr= .ok (.tuple #[]) (wr.setCells blk (off+kk) (List.replicate (d.size-kk) (enc zr))):=
        fun ty=>Lib.run_clear_slice wr _ _ ty _ (show Tryz.prog.underlying 23=some (.slice 22)from rfl) (fun w=>by rw [hz];rfl) (R.hO.cells zr) (R.hO zr) blk (off+kk) _ _ (by omega) (fun j hj=>by rw [show off+kk+j=off+(kk+j) by omega,S1.out.c1 R hds (kk+j) (by omega)];rfl) (fun j hj=>by rw [show off+kk+j=off+(kk+j) by omega];exact S1.out.f1 R hds (kk+j) (by omega))
       have S3:Aside (SW enc w blk off (cpE eb d d.size++List.replicate (d.size-kk) zr).toArray (wr.setCells blk (off+kk) (List.replicate (d.size-kk) (enc zr)))):=by
        rw [<-hdone,<-List.map_replicate];exact Zt R.hblk _ dk kk wr S1.out (by simp;omega)
       clear hdone I1 hI S1
       go_wp2
       go_ret
       refine⟨by rw [hlen];rfl,?_⟩
       rw [hlen,<-hz];exact S3.out
    |false=>
     obtain⟨iN,hiN⟩: ∃q,q=kp+1:=⟨_,rfl⟩;obtain⟨jN,hjN⟩: ∃q,q=kp:=⟨_,rfl⟩;have ea:((kp:Int)+1).toNat=iN:=by omega
     have pa:(0:Int)<=(kp:Int)+1:=by omega
     have ra:IntKind.i64.wrap ((kp:Int)+1)=(kp:Int)+1:=by rw [IntKind.wrap_i64];omega
     have ec:((kp:Int)).toNat=jN:=by omega
     have pc:(0:Int)<=(kp:Int):=by omega
     have bc:(kp:Int)<(d.size:Int):=by omega
     have rc:IntKind.i64.wrap ((kp:Int))=(kp:Int):=by rw [IntKind.wrap_i64];omega
     obtain⟨x,hx⟩: ∃x,x=d[kp+1]!:=⟨_,rfl⟩;obtain⟨y,hy⟩: ∃x,x=d[kp]!:=⟨_,rfl⟩;have la:=S1.out.cl R rfl (kp+1) (by omega)
     have lb:=S1.out.cl R rfl kp (by omega)
     rw [<-hx,<-hiN]at la;rw [<-hy,<-hjN]at lb;have hc:=Qq S1.out HC.out rfl x y;have hd:eb x y=false:=by rw [hx,hy];exact hdup
     simp only [hd]at hc;clear hx hy hiN hjN hd
     go_wp2_with fail
     go_quiet_grown (first|(go_at_fn g;refine Calls.grown_of (hc _ _)))
     have S2:Aside (SW enc w blk off d (grow (wr.drewN nq) osq)):=S1.out.grown nq osq;clear la lb hc S1;generalize grow (wr.drewN nq) osq=w2 at S2⊢;clear nq osq;clear ea ec
     go_wp2
     go_roundg (d.size-(kp+1+1))
     case measure=>omega
     case rel=>exact⟨kp+1,by omega,Nat.le_refl _,by first|rfl|go_num,S2,(show Hid _ from fun j hj=>by
      by_cases e:j=kp+1
      ·subst e
       exact Wf hdup
      ·exact hall.out j (by omega))⟩
   ·have:kp+1=d.size:=by omega
    go_wp2
    go_ret
    obtain⟨e1,e2⟩:=HS.out (by rw [<-this];exact hall.out)
    exact⟨by rw [e1];rfl,by rw [e2];exact S1.out⟩
end Go.Ve


namespace Go.Ve
open Go.Proofs Go.Shelf
def WL{T:Type}(e:T->T->Bool)(z:T)(xs:List T):List Nat:=(List.range xs.length).filter fun j=>decide (j=0)|| !e (xs.getD j z) (xs.getD (j-1) z)
def JK{T:Type}(e:T->T->Bool)(z:T)(xs:List T):List T:=(WL e z xs).map fun j=>xs.getD j z
theorem O7(g:Nat)(cap:Nat)(p:Option Addr)(w:World):Calls Tryz.prog 49 #[.slice p 0 cap,.func (.func g) #[] #[]] w fun e w'=>e= .returned (.slice p 0 cap)/\w'=w:=by
 have mixed:Tryz.prog.follows .mixedOrders=true:=by kernel_rfl
 go_enter Tryz.func49,(show Tryz.f49.ntmps=66 from rfl)
 go_wp2
 go_ret
 exact⟨rfl,rfl⟩
noncomputable def AaT{T:Type}(ok:T->Prop)(e:T->T->Bool)(z:T)(xs:List T):Option (List T×List T):=by
 classical exact if xs.length<4611686018427387904/\∀x∈xs,ok x then some (JK e z xs,[])else none
theorem O8{t:Ty}(ht:t.one=true){d:Nat}{g:FuncId}(hg:Nat.blt g 1000000=true)(hcg:Ab Tryz.prog g=true){G:t.T×t.T->Option Bool}(hG:FT Tryz.prog g ⟨[(false,t),(false,t)],[(false,0,.bool)]⟩ G)
  (ok:t.T->Prop) (e:t.T->t.T->Bool) (hok: ∀x y,ok x->ok y->G (x,y)=some (e x y)) (hcell1: ∀ (D:Nat->Prop) (w:World) (x:t.T) (cv:Value) (fp:Nat->Prop),Rel D w noR (cV t d x) cv fp->cv.oneCell'=true)
  (hz:ok t.dflt) (hz1: ∀ (D:Nat->Prop) (w:World),Rel D w noR (cV t 0 t.dflt) (.slice none 0 0) noF):
  FTU Tryz.prog 49 ⟨0,[(false,.clo g .unit)],.sl t,d+1,true,[(false,d+1,.sl t)]⟩ (fun _ xs=>AaT ok e t.dflt xs):=by
 intro z (xs:List t.T) u hu;have hw1:t.w=1:=by cases t<;>first|rfl|cases ht
 have hu:AaT ok e t.dflt xs=some u:=hu;unfold AaT at hu;split at hu
 case isFalse=>cases hu
 rename_i hcond;cases hu;obtain⟨hbig,hall⟩:=hcond;intro w D H cvs hk htab hD hHD hsz hrel0 hargs;have hsz:cvs.size=2:=hsz;have h0:Rel D w noR (arr (decide (0<d+1)) t.w (tyV t (d+1-1)) t.dflt xs) (cvs.getD 0 undef) H:=hrel0
 have e0:arr (decide (0<d+1)) t.w (tyV t (d+1-1)) t.dflt xs=V.nd true true 1 xs.length (fun i k=>(tyV t d (xs.getD i t.dflt)).getD k .dead):=by
  rw [dT (Nat.succ_pos d),hw1];rfl
 rw [e0]at h0;have h1:=hargs 1 (show 1<2 from Nat.lt_succ_self 1) (show(1:Nat)≠0 from Nat.one_ne_zero)
 have h1:Rel D w noR (.many (.cl g) 0 fun k=>(tyV .unit 0 ()).getD k .dead) (cvs.getD 1 undef) noF:=h1
 obtain⟨cs1,_,hpk,hcs1,_⟩:=h1;have hc1:cvs.getD 1 undef= .func (.func g) #[] #[]:=by
  have hp:cvs.getD 1 undef=Qk g cs1:=hpk;rw [hp,KZ hg,Array.eq_empty_of_size_eq_zero hcs1]
 have hcvs: ∀v,cvs.getD 0 undef=v->cvs= #[v,.func (.func g) #[] #[]]:=by
  intro v hv;apply Array.ext
  ·simpa using hsz
  ·intro q h1 h2
   have h2:q<2:=h2
   match q,h2 with
   |0,_=>
    have e:cvs[0]=cvs.getD 0 undef:=by simp [hsz]
    rw [e,hv];rfl
   |1,_=>
    have e:cvs[1]=cvs.getD 1 undef:=by simp [hsz]
    rw [e,hc1];rfl
 show Calls Tryz.prog 49 cvs w _;rcases h0 with⟨hn0,_,hnil,hH0⟩|⟨b,o,cap,F,hcv,hcap,hmax,_,hcell,_,hown⟩
 ·have hnil:=CS hnil
  rw [hcvs _ hnil];refine(O7 g 0 none w).mono ?_
  rintro e' w' ⟨rfl,rfl⟩
  have hxs:xs= []:=List.length_eq_zero_iff.1 hn0;subst hxs;refine⟨.slice none 0 0,noF,D,noF,rfl,⟨rfl,rfl,rfl,Nat.le_refl _,fun c _ _=>rfl,Nat.le_refl _⟩,?_,fun _ h=>h,fun _ h=>h.elim,fun _ h=>h.elim,fun _ h=>h.elim,fun _ h=>h,fun _ h=>.inl h,fun c hc=>⟨hD c hc,fun h=>h,fun h=>h⟩⟩
  show Rel D _ noR (arr (decide (0<d+1)) t.w (tyV t (d+1-1)) t.dflt (JK e t.dflt [])) _ _;rw [show JK e t.dflt ([]:List t.T)= []from rfl,dT (Nat.succ_pos d)]
  exact .inl ⟨rfl,rfl,.inl rfl,fun _ h=>h⟩
 obtain⟨⟨bcs,bT,hblk,hroom⟩,hFb,hFd,hHiff⟩:=hown rfl
 have hcell: ∀i:Fin xs.length,∃x,w.cell? ⟨b,o+i.val,none⟩=some x/\Rel D w noR (cV t d (xs.getD i.val t.dflt)) x (F i.val 0):=by
  intro i;obtain⟨x,hx,hr⟩:=hcell i.val 0 i.isLt (by omega)
  refine⟨x,by simpa using hx,?_⟩
  have hr:Rel D w noR ((tyV t d (xs.getD i.val t.dflt)).getD 0 V.dead) x (F i.val 0):=hr;rw [A2 ht]at hr;exact hr
 let en:Fin xs.length->Value:=fun i=>Classical.choose (hcell i)
 have henc: ∀i:Fin xs.length,w.cell? ⟨b,o+i.val,none⟩=some (en i)/\Rel D w noR (cV t d (xs.getD i.val t.dflt)) (en i) (F i.val 0):=fun i=>Classical.choose_spec (hcell i)
 let enc:Option (Fin xs.length)->Value:=fun i=>match i with
  |some i=>en i
  |none=>.slice none 0 0
 let dat:Option (Fin xs.length)->t.T:=fun i=>match i with
  |some i=>xs.getD i.val t.dflt
  |none=>t.dflt
 haveI:Inhabited (Option (Fin xs.length)):=⟨none⟩
 let dd:Array (Option (Fin xs.length)):=Array.ofFn fun i=>some i
 have hdd:dd.size=xs.length:=Array.size_ofFn
 have hddi: ∀j (hj:j<xs.length),dd[j]! =some ⟨j,hj⟩:=by
  intro j hj;have:j<dd.size:=by rw [hdd];exact hj
  rw [getElem!_pos dd j this];exact Array.getElem_ofFn _
 have hblt:b<w.heap.size:=by
  obtain⟨fz,hb,_⟩:=hblk;exact(Array.getElem?_eq_some_iff.1 hb).1
 have hbH:H b:=(hHiff b).2 (.inl rfl);have hFH: ∀i,i<xs.length->∀c,F i 0 c->H c:=fun i hi c hc=>(hHiff c).2 (.inr ⟨i,0,hi,by omega,hc⟩)
 have hFlt: ∀i:Fin xs.length,∀c,F i.val 0 c->c<w.heap.size:=fun i c hc=>Rel.lt _ _ _ (henc i).2 c hc
 have hFne: ∀i:Fin xs.length,∀c,F i.val 0 c->c≠b:=fun i c hc e=>hFb i.val 0 i.isLt (by omega) (e▸hc)
 have hDne: ∀c,D c->c≠b:=fun c hc e=>hHD b hbH (e▸hc)
 have hH:Go.Sort.Holds enc w b o dd:=by
  intro j hj;rw [hdd]at hj;rw [hddi j hj];have h1:=(henc ⟨j,hj⟩).1;exact⟨h1,BC.frozen hblk h1⟩
 have hone:OneCell enc:=fun i=>match i with
  |some i=>hcell1 _ _ _ _ _ (henc i).2
  |none=>rfl
 have hmem: ∀i,ok (dat i):=fun i=>match i with
  |some i=>hall _ (by
   show xs.getD i.val t.dflt∈xs;rw [gDE,gEE i.isLt];exact List.getElem_mem _)
  |none=>hz
 have hfrz: ∀x:t.T,Go.Ve.frz (cV t d x)=cV t 0 x:=fun x=>by
  have h1:=A4 t d x;rw [A2 ht,A2 ht]at h1;exact List.singleton_inj.1 h1
 have hcmp:Xb Tryz.prog g #[] enc (fun i j=>e (dat i) (dat j)) b o dd.size w:=by
  intro m os dk hdk i j;obtain⟨W,hW⟩: ∃W,W=sortWorld enc w b o m dk os:=⟨_,rfl⟩;rw [<-hW];have hWb: ∀c,c≠b->c<w.heap.size->W.heap[c]? =w.heap[c]?:=fun c h1 h2=>by rw [hW];exact BH h1 h2
  have hWs:w.heap.size<=W.heap.size:=by rw [hW];simp [sortWorld,Go.Sort.grow,Go.Sort.putRow,Go.Sort.mapBlock,Go.Sort.ahead]
  have hkW:Wok W:=hk.same fun p hp=>hWb _ (fun e=>htab p hp (e▸hbH)) (hk.lt hp)
  have hrel: ∀k:Option (Fin xs.length),Rel (fun c=>D c\/∃k:Fin xs.length,F k.val 0 c) W noR (cV t 0 (dat k)) (enc k) noF:=by
   intro k
   match k with
   |none=>exact hz1 _ _
   |some k=>
    have h1:=Rel.frz _ _ _ (henc k).2;rw [hfrz]at h1;refine Rel.mono (fun c hc=>hc.imp (fun h=>h) fun h=>⟨k,h⟩) (fun _ _ h=>h) _ _ _ (fun c hc=>?_) h1
    rcases hc with(hc|hc)|hc
    ·exact hWb c (hDne c hc) (hD c hc)
    ·exact hWb c (hFne k c hc) (hFlt k c hc)
    ·exact hc.elim
  have hfc:=hG (dat i,dat j) _ (hok _ _ (hmem i) (hmem j)) W (fun c=>D c\/∃k:Fin xs.length,F k.val 0 c) #[enc i,enc j] hkW (fun c hc=>Nat.lt_of_lt_of_le (hc.elim (hD c) fun⟨k,h⟩=>hFlt k c h) hWs) rfl (fun q hq=>by
   have hq:q<2:=hq
   match q,hq with
   |0,_=>exact hrel i
   |1,_=>exact hrel j)
  refine hfc.mono ?_
  rintro e' w' ⟨cv,fp,D',rfl,hB,hr,_⟩
  have hcv2:cv= .bool (e (dat i) (dat j)):=hr.1;exact⟨by rw [hcv2],Kb hB⟩
 have hcv':cvs.getD 0 undef= .slice (some ⟨b,o,none⟩) dd.size cap:=by rw [hcv,hdd];rfl
 rw [hcvs _ hcv'];refine(IB enc (fun i j=>e (dat i) (dat j)) g b o cap dd w (DG hcg) hcmp ⟨hone,hH,hblt⟩ none rfl (by rw [hdd];exact hbig) (by rw [hdd];exact hcap)).mono ?_
 rintro e' w' ⟨rfl,hSW⟩
 have hcp:cpE (fun i j=>e (dat i) (dat j)) dd dd.size=(WL e t.dflt xs).map (fun j=>dd[j]!):=by
  unfold cpE WL;rw [hdd];refine congrArg (List.map fun j=>dd[j]!) (List.filter_congr fun j hj=>?_)
  have hj:j<xs.length:=List.mem_range.1 hj;unfold kpE;rw [hddi j hj,hddi (j-1) (by omega)]
 have hIn: ∀i (hi:i<(WL e t.dflt xs).length),(WL e t.dflt xs)[i]<xs.length:=fun i hi=>List.mem_range.1 (List.mem_filter.1 (List.getElem_mem hi)).1
 have hNd:(WL e t.dflt xs).Nodup:=List.Pairwise.filter _ List.nodup_range
 have hIle:(WL e t.dflt xs).length<=xs.length:=by
  have:=List.length_filter_le (fun j=>decide (j=0)|| !e (xs.getD j t.dflt) (xs.getD (j-1) t.dflt)) (List.range xs.length)
  rw [List.length_range]at this;exact this
 rw [hcp]at hSW⊢;obtain⟨I,hI⟩: ∃I,I=WL e t.dflt xs:=⟨_,rfl⟩;rw [<-hI]at hSW hIn hNd hIle⊢;have hgetI: ∀i (hi:i<I.length),I.getD i 0=I[i]:=fun i hi=>by rw [gDE,gEE hi];rfl
 obtain⟨d',hd'⟩: ∃d':Array (Option (Fin xs.length)),d'=((I.map fun j=>dd[j]!)++List.replicate (dd.size-(I.map fun j=>dd[j]!).length) none).toArray:=⟨_,rfl⟩
 rw [<-hd']at hSW;have hdsz:d'.size=dd.size:=by rw [hd',hdd];simp;omega
 have hd'i: ∀i (hi:i<I.length),d'[i]! =some ⟨I[i],hIn i hi⟩:=fun i hi=>by
  rw [getElem!_pos d' i (by rw [hdsz,hdd];omega)]
  have e1:d'[i]? =some (some ⟨I[i],hIn i hi⟩):=by
   rw [hd',List.getElem?_toArray,gAL (by simpa using hi),List.getElem?_map,gEE hi]
   show some dd[I[i]]! =_;rw [hddi _ (hIn i hi)]
  rw [Array.getElem?_eq_getElem (by rw [hdsz,hdd];omega)]at e1
  exact Option.some.inj e1
 have hHo:=hSW.holds hblt hH hdsz;obtain⟨m,os,rfl⟩:=hSW;have hWb: ∀c,c≠b->c<w.heap.size->(sortWorld enc w b o m d' os).heap[c]? =w.heap[c]?:=fun c h1 h2=>BH h1 h2
 have hWs:w.heap.size<=(sortWorld enc w b o m d' os).heap.size:=by simp [sortWorld,Go.Sort.grow,Go.Sort.putRow,Go.Sort.mapBlock,Go.Sort.ahead]
 have hys:JK e t.dflt xs=I.map fun j=>xs.getD j t.dflt:=by rw [hI];rfl
 have hylen:(JK e t.dflt xs).length=I.length:=by rw [hys];simp
 have hyi: ∀i (hi:i<I.length),(JK e t.dflt xs).getD i t.dflt=xs.getD I[i] t.dflt:=fun i hi=>by
  rw [hys,gDE,List.getElem?_map,gEE hi];rfl
 refine⟨.slice (some ⟨b,o,none⟩) (I.map fun j=>dd[j]!).length cap,fun c=>c=b\/∃i,i<I.length/\F (I.getD i 0) 0 c,D,noF,rfl,⟨rfl,rfl,rfl,hWs,fun c hc hn=>hWb c (fun e=>hn (e▸hbH)) hc,by simp [sortWorld,Go.Sort.grow,Go.Sort.putRow,Go.Sort.mapBlock,Go.Sort.ahead]⟩,?_,fun _ h=>h,fun c hc=>.inl ?_,fun _ h=>h.elim,fun _ _ h=>h,fun _ h=>h,fun _ h=>.inl h,fun c hc=>⟨Nat.lt_of_lt_of_le (hD c hc) hWs,fun h=>?_,fun h=>h⟩⟩
 ·show Rel D _ noR (arr (decide (0<d+1)) t.w (tyV t (d+1-1)) t.dflt (JK e t.dflt xs)) _ _
  have e2:arr (decide (0<d+1)) t.w (tyV t (d+1-1)) t.dflt (JK e t.dflt xs)=V.nd true true 1 I.length (fun i k=>(tyV t d ((JK e t.dflt xs).getD i t.dflt)).getD k .dead):=by
   rw [<-hylen,dT (Nat.succ_pos d),hw1];rfl
  rw [e2];refine .inr ⟨b,o,cap,fun i _=>F (I.getD i 0) 0,by rw [List.length_map];rfl,by omega,by omega,(fun h=>by cases h),fun i k hi hk=>?_,(fun h=>by cases h),fun _=>⟨?_,fun i k hi hk=>hFb _ 0 (by rw [hgetI i hi];exact hIn i hi) (by omega),fun i k i' k' c hi hk hi' hk' hne h1 h2=>?_,fun c=>?_⟩⟩
  ·obtain rfl:k=0:=by omega
   have h1:=(hHo i (by rw [hdsz,hdd];omega)).1
   rw [hd'i i hi]at h1;refine⟨en ⟨I[i],hIn i hi⟩,by simpa using h1,?_⟩
   show Rel D _ noR ((tyV t d ((JK e t.dflt xs).getD i t.dflt)).getD 0 V.dead) _ _;rw [A2 ht,hyi i hi];show Rel D _ noR (cV t d (xs.getD I[i] t.dflt)) _ (F (I.getD i 0) 0);rw [hgetI i hi];refine Rel.mono (fun _ h=>h) (fun _ _ h=>h) _ _ _ (fun c hc=>?_) (henc ⟨I[i],hIn i hi⟩).2
   rcases hc with hc|hc
   ·exact hWb c (hDne c hc) (hD c hc)
   ·exact hWb c (hFne ⟨I[i],hIn i hi⟩ c hc) (hFlt ⟨I[i],hIn i hi⟩ c hc)
  ·obtain⟨fz,hb1,hb2⟩:=hblk
   refine⟨Go.Sort.putCells enc o d' bcs,bT,⟨fz,?_,?_⟩,?_⟩
   ·unfold sortWorld
    rw [Go.Sort.heap_grow_old _ _ (by simpa [Go.Sort.putRow,Go.Sort.mapBlock,Go.Sort.ahead]using hblt)]
    simp [Go.Sort.putRow,Go.Sort.mapBlock,Go.Sort.ahead,Array.getElem?_modify,hb1,Go.Sort.onCells]
   ·simpa [Go.Sort.putCells]using hb2
   ·simpa [Go.Sort.putCells]using hroom
  ·obtain rfl:k=0:=by omega
   obtain rfl:k'=0:=by omega
   have hii:i≠i':=by rcases hne with h|h<;>omega
   rw [hgetI i hi]at h1;rw [hgetI i' hi']at h2;exact hFd I[i] 0 I[i'] 0 c (hIn i hi) (by omega) (hIn i' hi') (by omega) (.inl fun e=>hii ((List.getElem_inj hNd).1 e)) h1 h2
  ·constructor
   ·rintro (h|⟨i,hi,h⟩)
    ·exact .inl h
    ·exact .inr ⟨i,0,hi,by omega,h⟩
   ·rintro (h|⟨i,k,hi,hk,h⟩)
    ·exact .inl h
    ·exact .inr ⟨i,hi,h⟩
 ·rcases hc with h|⟨i,hi,h⟩
  ·rw [h];exact hbH
  ·exact hFH _ (by rw [hgetI i hi];exact hIn i hi) c h
 ·rcases h with h|⟨i,hi,h⟩
  ·exact hHD c (h▸hbH) hc
  ·exact hHD c (hFH _ (by rw [hgetI i hi];exact hIn i hi) c h) hc
end Go.Ve

