/- strings.IndexRune over an ASCII text at any rune; what a byte above ASCII begins. -/
import Derived.Shelf.Strings.IndexAnyAll
import Derived.Laws.Runes
import Derived.Shelf.Small.Utf8
import Derived.WalkKit
import Derived.WalkMore
import Derived.Shelf.RegionOpenPlain
import Derived.Deep.Draws
import Derived.Deep.QuietTactic
import Derived.Test.YtcpgmjbppfdjbaaDoorVa
namespace Go.Proofs
open Go Go.Shelf Go.RowKit Go.Lib
variable {P:Program} {ρ:Ren}
set_option maxHeartbeats 2000000 in
set_option maxRecDepth 1000000 in
theorem N8(L:Lays.n152 P ρ)(s:ByteArray)(r:Int)(w:World)(h0:128<=r)(hv:Utf8.valid r=true)(hne:r≠65533)(hs: ∀b∈s.data.toList,b.toNat<128)(hsz:s.size<1000):
  Calls P (ρ.f 152) #[.string s,.int .i32 r] w λe w'=>e= .returned (.int .i64 (-1))/\∃n,w'=w.drewN n:=by
 obtain⟨e2,e4,elast⟩:=encode_facts r hv h0;have hVR:Lib.validRune r=true:=by
  unfold Lib.validRune;rw [validRune_eq]at hv;unfold validRune at hv;have:=of_decide_eq_true hv;simp;omega
 have mixed:=L.mixed;have t3:=L.t3;have a3:=L.a3;have z3:=L.z3;have v3:=L.v3;have t4:=L.t4;have a4:=L.a4;have z4:=L.z4;have v4:=L.v4;have t5:=L.t5;have a5:=L.a5;have z5:=L.z5;have v5:=L.v5;have t9:=L.t9;have a9:=L.a9;have z9:=L.z9;have v9:=L.v9;have t21:=L.t21;have a21:=L.a21;have z21:=L.z21;have v21:=L.v21;have e137: ∀args w,(callFunc (ρ.f 137) args).run P w= .ok (.enter (ρ.f 137) args) w:=enters_of L.f137 (by kernel_rfl) rfl
 have e119: ∀args w,(callFunc (ρ.f 119) args).run P w= .ok (.enter (ρ.f 119) args) w:=enters_of L.f119 (by kernel_rfl) rfl
 have hcv:=λw=>run_convert_int_string (P:=P) w (ρ.t 21) (ρ.t 9) .i32 r (by rw [t21];rfl) t9
 go_enter L.f152,Body.n152_ntmps ρ
 go_wp2_with (first
  |(go_at_fn (ρ.f 119);refine(Any.utf8_ValidRune {L with} _ _).mono ?_;rintro e w' ⟨rfl,hw⟩;rw [hw,hVR])
  |(go_at_fn (ρ.f 137);refine(Any.strings_IndexByte {L with} _ _ _).mono ?_;rintro e w' ⟨rfl,hw⟩;rw [hw]))
 go_step3
 go_wp2
 clear hcv hv hVR;generalize Utf8.encode r=rs at e2 e4 elast⊢;obtain⟨m,hm⟩: ∃m,rs.size=m+1:=⟨rs.size-1,by omega⟩
 have hm1:((rs.size:Int)-1)=(m:Int):=by omega
 have hml:m<rs.size:=by omega
 obtain⟨x,hx⟩: ∃x:UInt8,rs[m]'hml=x:=⟨_,rfl⟩;have hx128:128<=x.toNat:=by
  have:=elast (by omega)
  have e:rs.size-1=m:=by omega
  simp only [e]at this;rw [hx]at this;exact this
 have hback:((x.toNat:Int)).toNat.toUInt8=x:=by simp
 clear elast;simp only [hm1];have hmz:(m:Int)<(rs.size:Int):=by omega
 clear hm hm1 e2 e4
 go_loopg [9] 0 (λg s9 wx=>s9= .int .i64 (m:Int)/\wx=w)
 case atStart=>exact⟨rfl,rfl⟩
 case round=>
  obtain⟨rfl,rfl⟩:=hrel;by_cases hi:m<s.size
  ·have hi1:(m:Int)<(s.size:Int):=by omega
   obtain⟨y,hy⟩: ∃y:UInt8,s[m]'hi=y:=⟨_,rfl⟩;have hym:y∈s.data.toList:=by rw [<-hy];exact Array.getElem_mem_toList (xs:=s.data) hi
   have hy128:=hs y hym;have hne2: ¬ ((y.toNat:Int)=(x.toNat:Int)):=by omega
   have b1:(0:Int)<=(m:Int):=by omega
   have b3:((m:Int)).toNat=m:=by simp
   go_wp2
   go_step3
   go_wp2
   go_quiet_o (fail)
   have hc: ∀a b w,Calls P (ρ.f 137) #[.string (s.extract a b),.int .u8 x.toNat] w λe w'=>e= .returned (.int .i64 (-1))/\w'=w:=λa b w=>
    (Any.strings_IndexByte {L with} _ _ _).mono λe w' ⟨h1,h2⟩=>⟨by rw [h1,hback,<-Lib.firstIdx_eq,firstIdx_ascii s a b x hs hx128],h2⟩
   have hne3:((y.toNat:Int) !=(x.toNat:Int))=true:=by simpa using hne2
   have hw1:IntKind.i64.wrap ((m:Int)+1)=(m:Int)+1:=by rw [IntKind.wrap_i64];omega
   have b5:(0:Int)<=(m:Int)+1:=by omega
   have b6:(m:Int)+1<=(s.size:Int):=by omega
   go_wp2
   generalize hwq:wr.drewN nq=wq
   go_quiet_o (first|(go_at_fn (ρ.f 137);refine Calls.quiet_of_same (hc _ _ _)))
   go_wp2
   rw [Exit.noGoto_ret]
   go_wp2
   rw [Exit.noGoto_ret]
   go_ret
   exact⟨rfl,_,by rw [<-hwq,World.drewN_drewN]⟩
  ·have hi1: ¬ ((m:Int)<(s.size:Int)):=by omega
   go_wp2
   go_ret
   exact⟨rfl,0,rfl⟩
set_option maxHeartbeats 2000000 in
set_option maxRecDepth 1000000 in
theorem Mp(L:Lays.n152 P ρ)(s:ByteArray)(w:World)(hs: ∀ (j:Nat) b,s.data.toList[j]? =some b->b.toNat<128):
  Calls P (ρ.f 152) #[.string s,.int .i32 65533] w λe w'=>e= .returned (.int .i64 (-1))/\∃pos,w'=w.iter s pos:=by
 have mixed:=L.mixed;have t3:=L.t3;have a3:=L.a3;have z3:=L.z3;have v3:=L.v3;have t4:=L.t4;have a4:=L.a4;have z4:=L.z4;have v4:=L.v4;have t5:=L.t5;have a5:=L.a5;have z5:=L.z5;have v5:=L.v5;have t9:=L.t9;have a9:=L.a9;have z9:=L.z9;have v9:=L.v9;have t21:=L.t21;have a21:=L.a21;have z21:=L.z21;have v21:=L.v21
 go_enter L.f152,Body.n152_ntmps ρ
 go_wp2
 go_loopg [5,6] s.size (λg _ _ wx=>∃i:Nat,i+g=s.size/\wx=w.iter s i)
 case atStart=>exact⟨0,by omega,rfl⟩
 case round=>
  obtain⟨i,hig,rfl⟩:=hrel;cases gk with
  |zero=>
   obtain rfl:i=s.size:=by omega
   have hnx:=run_next_end (P:=P) w s s.size
   go_wp2
   go_ret
   exact⟨rfl,_,rfl⟩
  |succ g=>
   have hi:i<s.size:=by omega
   obtain⟨x,hx⟩: ∃x:UInt8,s[i]'hi=x:=⟨_,rfl⟩;have hxl:s.data.toList[i]? =some x:=by rw [<-hx];exact Lib.data_getElem? s i hi
   have hx128:x.toNat<128:=hs i x hxl;have hnx:=λty=>run_next_ascii (P:=P) w s i ty hi (by rw [hx];exact hx128)
   rw [hx]at hnx;have hne: ¬ ((x.toNat:Int)=65533):=by omega
   clear hs hxl hx
   go_wp2
   go_roundg g
   case measure=>omega
   case rel=>exact⟨i+1,by omega,rfl⟩
theorem L8(s:ByteArray)(i:Nat)(h:i<s.size):s.get! i=s[i]'h:=by
 simp [ByteArray.get!,getElem!_pos,h];rfl
theorem Nz (s:ByteArray)(i:Nat)(h:i<s.size):s.data.toList[i]? =some (s.get! i):=by
 rw [L8 s i h];exact Lib.data_getElem? s i h
theorem WE(s:ByteArray)(pos:Nat)(h:pos<s.size)(ha:128<=(s.get! pos).toNat):
  ∃r k,Utf8.decode s pos=(r,k)/\128<=r/\(r=65533\/Utf8.valid (r:Int)=true)/\r<2000000/\1<=k/\pos+k<=s.size/\∀j,j<k->128<=(s.get! (pos+j)).toNat:=by
 have one: ∃r k,((65533:Nat),(1:Nat))=(r,k)/\128<=r/\(r=65533\/Utf8.valid (r:Int)=true)/\r<2000000/\1<=k/\pos+k<=s.size/\∀j,j<k->128<=(s.get! (pos+j)).toNat:=
  ⟨_,_,rfl,by omega,.inl rfl,by omega,by omega,by omega,λj hj=>by
   obtain rfl:j=0:=by omega
   exact ha⟩
 unfold Utf8.decode;simp only [Nat.add_zero];rw [if_neg (by omega)]
 have hb:=(s.get! pos).toNat_lt;split
 ·rename_i hc
  simp only [Bool.and_eq_true,beq_iff_eq,decide_eq_true_eq]at hc;split
  ·refine⟨_,_,rfl,by omega,.inr ?_,by omega,by omega,by omega,λj hj=>?_⟩
   ·rw [validRune_eq];unfold Go.validRune;simp only [decide_eq_true_eq];omega
   ·match j,hj with
    |0,_=>exact ha
    |1,_=>omega
  ·exact one
 ·split
  ·rename_i hc
   simp only [Bool.and_eq_true,beq_iff_eq,decide_eq_true_eq]at hc;split
   ·rename_i hv
    simp only [Bool.and_eq_true,decide_eq_true_eq]at hv;refine⟨_,_,rfl,by omega,.inr hv.2,by omega,by omega,by omega,λj hj=>?_⟩
    match j,hj with
    |0,_=>exact ha
    |1,_=>omega
    |2,_=>omega
   ·exact one
  ·split
   ·rename_i hc
    simp only [Bool.and_eq_true,beq_iff_eq,decide_eq_true_eq]at hc;split
    ·rename_i hv
     simp only [Bool.and_eq_true,decide_eq_true_eq]at hv;refine⟨_,_,rfl,by omega,.inr hv.2,?_,by omega,by omega,λj hj=>?_⟩
     ·have:=hv.2
      rw [validRune_eq]at this;unfold Go.validRune at this;simp only [decide_eq_true_eq]at this;omega
     ·match j,hj with
      |0,_=>exact ha
      |1,_=>omega
      |2,_=>omega
      |3,_=>omega
    ·exact one
   ·exact one
theorem Im(W:World)(s:ByteArray)(b pos r k:Nat)(ty:TypeId)(hW:W.heap[b]? =some (.stringIter s pos))(h:pos<s.size)(hd:Utf8.decode s pos=(r,k)):
  (Instr.next (.pointer (some ⟨b,0,none⟩)) true ty).run P W= .ok (.tuple #[.bool true,.int .i64 pos,.int .i32 r]) {W with heap:=W.heap.setIfInBounds b (.stringIter s (pos+k))}:=by
 simp only [Instr.next,getObj,setObj,Sem.run_bind,Sem.run,hW,Result.andThen,h,if_true,hd]
 simp [goInt,Sem.run,hW]
end Go.Proofs


namespace Go.Proofs
open Go Go.Shelf Go.RowKit Go.Lib
variable{B b:Nat}{W w:World}
variable {P:Program} {ρ:Ren}
theorem LB(W:World)(s:ByteArray)(b pos:Nat)(ty:TypeId)(hW:W.heap[b]? =some (.stringIter s pos))(h: ¬pos<s.size):
  (Instr.next (.pointer (some ⟨b,0,none⟩)) true ty).run P W= .ok (.tuple #[.bool false]) W:=by
 simp [Instr.next,getObj,Sem.run,hW,h]
theorem NoAny.add{s chars:List UInt8}{i k:Nat}(h:Lib.NoAny s chars i)(hk: ∀j,j<k->∀b,s[i+j]? =some b->chars.contains b=false):Lib.NoAny s chars (i+k):=λj b hj hb=>by
 by_cases h1:j<i
 ·exact h j b h1 hb
 ·exact hk (j-i) (by omega) b (by rw [show i+(j-i)=j by omega];exact hb)
theorem N2(h:Go.Ve.Below B w W)(hb:B<=b)(o:Obj):Go.Ve.Below B w {W with heap:=W.heap.setIfInBounds b o}:=
 ⟨h.os,h.tape,h.output,by simpa using h.size,λk hk=>by
  show(W.heap.setIfInBounds b o)[k]? =_;rw [Array.getElem?_setIfInBounds,if_neg (by omega)];exact h.block k hk,h.drawn⟩
theorem O7(h:Go.Ve.Below B w W)(n:Nat):Go.Ve.Below B w (W.drewN n):=
 ⟨h.os,h.tape,h.output,h.size,h.block,h.drawn⟩
theorem Vp{o' o:Obj}(h:W.heap[b]? =some o'):(W.heap.setIfInBounds b o)[b]? =some o:=by
 have:=(Array.getElem?_eq_some_iff.1 h).1;simp [this]
set_option maxHeartbeats 4000000 in
set_option maxRecDepth 1000000 in
theorem Kg(L:Lays.n153 P ρ)(s chars:ByteArray)(w:World)(h2:2<=chars.size)(hcz:chars.size<1000)(h8:s.size<=8)(hascii: ∀ (j:Nat) b,chars.data.toList[j]? =some b->b.toNat<128):
  Calls P (ρ.f 153) #[.string s,.string chars] w λe w'=>e= .returned (.int .i64 (Lib.indexAny s.data.toList chars.data.toList))/\Go.Ve.Below w.heap.size w w':=by
 have HA:Aside (∀ (j:Nat) b,chars.data.toList[j]? =some b->b.toNat<128):=hascii;have hmem: ∀b∈chars.data.toList,b.toNat<128:=λb hb=>by
  obtain⟨j,hj⟩:=List.mem_iff_getElem?.1 hb;exact hascii j b hj
 have HM:Aside (∀b∈chars.data.toList,b.toNat<128):=hmem;clear hascii hmem;have hemp:chars.toList.isEmpty=false:=by
  rw [Lib.toList_data];cases h:chars.data.toList with
  |nil=>have:=Lib.size_eq chars;rw [h,List.length_nil]at this;omega
  |cons _ _=>rfl
 have hn1:((chars.size:Int)==1)=false:=beq_eq_false_iff_ne.2 (by omega)
 have h8z:decide ((8:Int)<(s.size:Int))=false:=decide_eq_false (by omega)
 have t3:=L.t3;have a3:=L.a3;have z3:=L.z3;have v3:=L.v3;have t4:=L.t4;have a4:=L.a4;have z4:=L.z4;have v4:=L.v4;have t5:=L.t5;have a5:=L.a5;have z5:=L.z5;have v5:=L.v5;have t9:=L.t9;have a9:=L.a9;have z9:=L.z9;have v9:=L.v9;have t21:=L.t21;have a21:=L.a21;have z21:=L.z21;have v21:=L.v21;have e152: ∀args w,(callFunc (ρ.f 152) args).run P w= .ok (.enter (ρ.f 152) args) w:=enters_of L.f152 (by kernel_rfl) rfl
 have e226: ∀args w,(callFunc (ρ.f 226) args).run P w= .ok (.enter (ρ.f 226) args) w:=enters_of L.f226 (by kernel_rfl) rfl
 obtain⟨b,hb⟩: ∃b,b=w.heap.size:=⟨_,rfl⟩
 go_enter L.f153,Body.n153_ntmps ρ
 go_wp2_with (go_at_fn (ρ.f 226);refine(Any.strings_shouldUseASCIISet {L with} _ _).mono ?_;rintro e w' ⟨rfl,hw⟩;rw [hw,h8z])
 go_loopg [9,10] s.size (λg _ _ wx=>∃i:Nat,i<=s.size/\s.size-i<=g/\Aside (Go.Ve.Below w.heap.size w wx)/\wx.heap[w.heap.size]? =some (.stringIter s i)/\Aside (Lib.NoAny s.data.toList chars.data.toList i))
 case atStart=>exact⟨0,by omega,by omega,(Go.Ve.Below.refl _ _).alloc (Nat.le_refl _) _,World.iter_heap _ _ _,Lib.NoAny.zero _ _⟩
 case round=>
  obtain⟨i,hi0,hig,hB,hit,HN⟩:=hrel;by_cases hi:i<s.size
  ·obtain⟨g,rfl⟩: ∃g,gk=g+1:=⟨gk-1,by omega⟩
   obtain⟨x,hx⟩: ∃x:UInt8,s.get! i=x:=⟨_,rfl⟩;have hxl:s.data.toList[i]? =some x:=by rw [<-hx];exact Nz s i hi
   by_cases hx128:x.toNat<128
   ·have hd:Utf8.decode s i=(x.toNat,1):=by
     have:=decode_ascii s i hi (by rw [<-L8 s i hi,hx];exact hx128)
     rw [this,<-L8 s i hi,hx]
    obtain⟨W1,hW1⟩: ∃W1,W1= {wr with heap:=wr.heap.setIfInBounds w.heap.size (.stringIter s (i+1))}:=⟨_,rfl⟩
    have hnx:=λty=>Im (P:=P) wr s w.heap.size i x.toNat 1 ty hit hi hd
    rw [<-hW1]at hnx;have hW2:W1.heap[w.heap.size]? =some (.stringIter s (i+1)):=by rw [hW1];exact Vp hit
    have HW2:Aside (W1.heap[w.heap.size]? =some (.stringIter s (i+1))):=hW2;have HB:Aside (Go.Ve.Below w.heap.size w W1):=by rw [hW1];exact N2 hB.out (Nat.le_refl _) _
    have Hx:Aside (s.data.toList[i]? =some x):=hxl;clear hxl hx hW1 hW2 hd hit hB;have hcon:=Lib.contains_iff_indexByte chars.data.toList x;have hback:((x.toNat:Int)).toNat.toUInt8=x:=by simp
    cases hin:chars.data.toList.contains x
    ·rw [hin]at hcon
     have hlt: ¬ ((0:Int)<=Lib.indexByte chars.data.toList x):=of_decide_eq_false hcon.symm;clear hcon
     go_wp2_with (go_at_fn (ρ.f 152);refine(Any.strings_IndexRune_ascii {L with} _ _ _ (by omega) (by omega)).mono ?_;rintro e w' ⟨rfl,hw⟩;rw [hw,hback])
     go_roundg g
     case measure=>omega
     case rel=>exact⟨i+1,by omega,by omega,HB,HW2.out,HN.out.succ Hx.out hin⟩
    ·rw [hin]at hcon
     have hge:(0:Int)<=Lib.indexByte chars.data.toList x:=of_decide_eq_true hcon.symm;clear hcon
     go_wp2_with (go_at_fn (ρ.f 152);refine(Any.strings_IndexRune_ascii {L with} _ _ _ (by omega) (by omega)).mono ?_;rintro e w' ⟨rfl,hw⟩;rw [hw,hback])
     go_ret
     exact⟨by rw [Lib.indexAny_hit HN.out Hx.out hin];rfl,HB.out⟩
   ·obtain⟨r,k,hd,hr1,hr2,hr3,hk1,hk2,hk3⟩:=WE s i hi (by rw [hx];omega)
    obtain⟨W1,hW1⟩: ∃W1,W1= {wr with heap:=wr.heap.setIfInBounds w.heap.size (.stringIter s (i+k))}:=⟨_,rfl⟩
    have hnx:=λty=>Im (P:=P) wr s w.heap.size i r k ty hit hi hd
    rw [<-hW1]at hnx;have hW2:W1.heap[w.heap.size]? =some (.stringIter s (i+k)):=by rw [hW1];exact Vp hit
    have HW2:Aside (W1.heap[w.heap.size]? =some (.stringIter s (i+k))):=hW2;have HB:Aside (Go.Ve.Below w.heap.size w W1):=by rw [hW1];exact N2 hB.out (Nat.le_refl _) _
    have HN2:Aside (Lib.NoAny s.data.toList chars.data.toList (i+k)):=NoAny.add HN.out λj hj b hb=>by
     have hb':=Nz s (i+j) (by omega)
     rw [hb']at hb;cases hb;have:=hk3 j hj;cases hcc:chars.data.toList.contains (s.get! (i+j))with
     |false=>rfl
     |true=>
      have:=HM.out _ (List.contains_iff_mem.1 hcc);omega
    clear hxl hx hW1 hW2 hd hit hB hk3 HN;by_cases hre:r=65533
    ·subst hre
     go_wp2_with (go_at_fn (ρ.f 152);refine(Mp {L with} chars _ HA.out).mono ?_;rintro e w' ⟨rfl,pos,rfl⟩)
     go_roundg g
     case measure=>omega
     case rel=>
      refine⟨i+k,by omega,by omega,HB.out.alloc HB.out.size _,?_,HN2.out⟩
      have:=(Array.getElem?_eq_some_iff.1 HW2.out).1;show(W1.heap.push _)[w.heap.size]? =_;rw [Array.getElem?_push_lt this,<-HW2.out,Array.getElem?_eq_getElem this]
    ·have hv:Utf8.valid (r:Int)=true:=hr2.resolve_left hre
     have hre':(r:Int)≠65533:=by omega
     go_wp2_with (go_at_fn (ρ.f 152);refine(N8 {L with} chars _ _ (by omega) hv hre' HM.out hcz).mono ?_;rintro e w' ⟨rfl,n,rfl⟩)
     go_roundg g
     case measure=>omega
     case rel=>exact⟨i+k,by omega,by omega,O7 HB.out _,HW2.out,HN2.out⟩
  ·obtain rfl:i=s.size:=by omega
   have hnx:=λty=>LB (P:=P) wr s w.heap.size s.size ty hit (by omega)
   go_wp2
   go_ret
   exact⟨by rw [Lib.indexAny_none (by rw [<-Lib.size_eq];exact HN.out)];rfl,hB.out⟩
set_option maxHeartbeats 1000000 in
theorem J3(L:Lays.n150 P ρ)(hv116: ∀w,(zeroValue (ρ.t 116)).run P w= .ok (.agg (Array.replicate 256 (.bool false))) w)(hi116:(P.info? (ρ.t 116)).map (·.size)=some 256)(s chars:ByteArray)(w:World)(h2:2<=chars.size)(hcz:chars.size<1000)(hs:s.size<4294967281)
  (hac: ∀ (j:Nat) b,chars.data.toList[j]? =some b->b.toNat<128):
  Calls P (ρ.f 150) #[.string s,.string chars] w λe w'=>e= .returned (.bool (Lib.containsAny s.data.toList chars.data.toList))/\Go.Ve.Below w.heap.size w w':=by
 have c:Calls P (ρ.f 153) #[.string s,.string chars] w λe w'=>e= .returned (.int .i64 (Lib.indexAny s.data.toList chars.data.toList))/\Go.Ve.Below w.heap.size w w':=by
  by_cases h8:s.size<=8
  ·exact Kg {L with} s chars w h2 hcz h8 hac
  ·refine(Any.strings_IndexAny_long {L with} hv116 hi116 s chars w h2 (by omega) hs (by omega) hac).mono λe w' ⟨h1,h2⟩=>⟨h1,?_⟩
   rw [h2];exact((Go.Ve.Below.refl _ _).alloc (Nat.le_refl _) _).alloc (by show _<=(w.heap.push _).size;simp) _
 have t3:=L.t3;have a3:=L.a3;have z3:=L.z3;have v3:=L.v3;have t4:=L.t4;have a4:=L.a4;have z4:=L.z4;have v4:=L.v4;have t9:=L.t9;have a9:=L.a9;have z9:=L.z9;have v9:=L.v9;have e153: ∀args w,(callFunc (ρ.f 153) args).run P w= .ok (.enter (ρ.f 153) args) w:=enters_of L.f153 (by kernel_rfl) rfl
 go_enter L.f150,Body.n150_ntmps ρ
 go_wp2_with (go_at_fn (ρ.f 153);refine c.mono ?_;rintro e w' ⟨rfl,hw⟩)
 go_ret
 exact⟨rfl,hw⟩
end Go.Proofs

