/- Contracts of library functions at this program (off the shelf): FormatInt with its table, Join, ContainsAny. -/
import Derived.Test.YtcpgmjbppfdjbaaDoorUr11
import Derived.Test.YtcpgmjbppfdjbaaDoorNra
import Derived.Shelf.Strconv.Itoa3
import Derived.Shelf.Strings.OnBuilder
namespace Go.Proofs
open Go.Shelf Go.RowKit
def Tryd.lays246_ren:Go.Shelf.Ren:=⟨fun|246=>37|283=>45|284=>46|285=>47|286=>48|129=>56|317=>55|318=>57|319=>58|320=>59|337=>63|338=>64|n=>n,fun|2=>2|3=>3|9=>9|4=>4|171=>78|0=>0|53=>79|37=>59|5=>5|173=>82|212=>91|51=>92|20=>20|213=>93|46=>88|232=>99|233=>100|n=>n,fun|17=>0|18=>2|19=>3|n=>n⟩
theorem Tryd.lays246:Go.Proofs.LaysM.n246 Tryd.prog Tryd.lays246_ren:={
 mixed:=by kernel_rfl
 f129:=Tryd.func56.trans (congrArg some (by kernel_rfl))
 f246:=Tryd.func37.trans (congrArg some (by kernel_rfl))
 f283:=Tryd.func45.trans (congrArg some (by kernel_rfl))
 f284:=Tryd.func46.trans (congrArg some (by kernel_rfl))
 f285:=Tryd.func47.trans (congrArg some (by kernel_rfl))
 f286:=Tryd.func48.trans (congrArg some (by kernel_rfl))
 f317:=Tryd.func55.trans (congrArg some (by kernel_rfl))
 f318:=Tryd.func57.trans (congrArg some (by kernel_rfl))
 f319:=Tryd.func58.trans (congrArg some (by kernel_rfl))
 f320:=Tryd.func59.trans (congrArg some (by kernel_rfl))
 f337:=Tryd.func63.trans (congrArg some (by kernel_rfl))
 f338:=Tryd.func64.trans (congrArg some (by kernel_rfl))
 t0:=Tryd.underlying0
 a0:=Tryd.isAgg0
 z0:=Tryd.sizeOf0
 v0:=Tryd.zeroValue0
 t2:=Tryd.underlying2
 a2:=Tryd.isAgg2
 z2:=Tryd.sizeOf2
 v2:=Tryd.zeroValue2
 t3:=Tryd.underlying3
 a3:=Tryd.isAgg3
 z3:=Tryd.sizeOf3
 v3:=Tryd.zeroValue3
 t4:=Tryd.underlying4
 a4:=Tryd.isAgg4
 z4:=Tryd.sizeOf4
 v4:=Tryd.zeroValue4
 t5:=Tryd.underlying5
 a5:=Tryd.isAgg5
 z5:=Tryd.sizeOf5
 v5:=Tryd.zeroValue5
 t9:=Tryd.underlying9
 a9:=Tryd.isAgg9
 z9:=Tryd.sizeOf9
 v9:=Tryd.zeroValue9
 t20:=Tryd.underlying20
 a20:=Tryd.isAgg20
 z20:=Tryd.sizeOf20
 v20:=Tryd.zeroValue20
 t37:=Tryd.underlying59
 a37:=Tryd.isAgg59
 z37:=Tryd.sizeOf59
 v37:=Tryd.zeroValue59
 t46:=Tryd.underlying88
 a46:=Tryd.isAgg88
 z46:=Tryd.sizeOf88
 v46:=Tryd.zeroValue88
 t51:=Tryd.underlying92
 a51:=Tryd.isAgg92
 z51:=Tryd.sizeOf92
 v51:=Tryd.zeroValue92
 t53:=Tryd.underlying79
 a53:=Tryd.isAgg79
 z53:=Tryd.sizeOf79
 v53:=Tryd.zeroValue79
 t171:=Tryd.underlying78
 a171:=Tryd.isAgg78
 z171:=Tryd.sizeOf78
 v171:=Tryd.zeroValue78
 t173:=Tryd.underlying82
 a173:=Tryd.isAgg82
 z173:=Tryd.sizeOf82
 v173:=Tryd.zeroValue82
 t212:=Tryd.underlying91
 a212:=Tryd.isAgg91
 z212:=Tryd.sizeOf91
 v212:=Tryd.zeroValue91
 t213:=Tryd.underlying93
 a213:=Tryd.isAgg93
 z213:=Tryd.sizeOf93
 t232:=Tryd.underlying99
 a232:=Tryd.isAgg99
 z232:=Tryd.sizeOf99
 v232:=Tryd.zeroValue99
 t233:=Tryd.underlying100
 a233:=Tryd.isAgg100
 z233:=Tryd.sizeOf100
 v233:=Tryd.zeroValue100
 g17:=by kernel_rfl
 g18:=by kernel_rfl
 g19:=by kernel_rfl
 i0:=by kernel_rfl
 i2:=by kernel_rfl
 i3:=by kernel_rfl
 i4:=by kernel_rfl
 i5:=by kernel_rfl
 i9:=by kernel_rfl
 i20:=by kernel_rfl
 i37:=by kernel_rfl
 i46:=by kernel_rfl
 i51:=by kernel_rfl
 i53:=by kernel_rfl
 i171:=by kernel_rfl
 i173:=by kernel_rfl
 i212:=by kernel_rfl
 i232:=by kernel_rfl
 i233:=by kernel_rfl
 m17:=by kernel_rfl
 m18:=by kernel_rfl
 m19:=by kernel_rfl}
def Tryd.lays156_ren:Go.Shelf.Ren:=⟨fun|156=>31|165=>38|166=>39|169=>40|240=>49|241=>50|276=>60|277=>61|n=>n,fun|31=>32|9=>9|3=>3|4=>4|0=>0|20=>20|72=>64|76=>68|70=>62|37=>59|75=>67|127=>84|164=>95|5=>5|80=>40|n=>n,fun|n=>n⟩
theorem Tryd.lays156:Go.Proofs.Lays.n156 Tryd.prog Tryd.lays156_ren:={
 mixed:=by kernel_rfl
 f156:=Tryd.func31.trans (congrArg some (by kernel_rfl))
 f165:=Tryd.func38.trans (congrArg some (by kernel_rfl))
 f166:=Tryd.func39.trans (congrArg some (by kernel_rfl))
 f169:=Tryd.func40.trans (congrArg some (by kernel_rfl))
 f240:=Tryd.func49.trans (congrArg some (by kernel_rfl))
 f241:=Tryd.func50.trans (congrArg some (by kernel_rfl))
 f276:=Tryd.func60.trans (congrArg some (by kernel_rfl))
 f277:=Tryd.func61.trans (congrArg some (by kernel_rfl))
 t0:=Tryd.underlying0
 a0:=Tryd.isAgg0
 z0:=Tryd.sizeOf0
 v0:=Tryd.zeroValue0
 t3:=Tryd.underlying3
 a3:=Tryd.isAgg3
 z3:=Tryd.sizeOf3
 v3:=Tryd.zeroValue3
 t4:=Tryd.underlying4
 a4:=Tryd.isAgg4
 z4:=Tryd.sizeOf4
 v4:=Tryd.zeroValue4
 t9:=Tryd.underlying9
 a9:=Tryd.isAgg9
 z9:=Tryd.sizeOf9
 v9:=Tryd.zeroValue9
 t20:=Tryd.underlying20
 a20:=Tryd.isAgg20
 z20:=Tryd.sizeOf20
 v20:=Tryd.zeroValue20
 t31:=Tryd.underlying32
 a31:=Tryd.isAgg32
 z31:=Tryd.sizeOf32
 v31:=Tryd.zeroValue32
 t37:=Tryd.underlying59
 a37:=Tryd.isAgg59
 z37:=Tryd.sizeOf59
 v37:=Tryd.zeroValue59
 t70:=Tryd.underlying62
 a70:=Tryd.isAgg62
 z70:=Tryd.sizeOf62
 v70:=Tryd.zeroValue62
 t72:=Tryd.underlying64
 a72:=Tryd.isAgg64
 z72:=Tryd.sizeOf64
 v72:=Tryd.zeroValue64
 t75:=Tryd.underlying67
 a75:=Tryd.isAgg67
 z75:=Tryd.sizeOf67
 v75:=Tryd.zeroValue67
 t76:=Tryd.underlying68
 a76:=Tryd.isAgg68
 z76:=Tryd.sizeOf68
 v76:=Tryd.zeroValue68
 t127:=Tryd.underlying84
 a127:=Tryd.isAgg84
 z127:=Tryd.sizeOf84
 v127:=Tryd.zeroValue84
 t164:=Tryd.underlying95
 a164:=Tryd.isAgg95
 z164:=Tryd.sizeOf95
 v164:=Tryd.zeroValue95}
def Tryd.lays150_ren:Go.Shelf.Ren:=⟨fun|150=>28|153=>36|152=>41|226=>42|227=>43|228=>44|137=>51|119=>52|224=>53|225=>54|217=>62|266=>65|n=>n,fun|9=>9|4=>4|3=>3|5=>5|21=>21|117=>74|116=>73|0=>0|46=>88|124=>89|n=>n,fun|n=>n⟩
theorem Tryd.lays150:Go.Proofs.Lays.n150 Tryd.prog Tryd.lays150_ren:={
 mixed:=by kernel_rfl
 f119:=Tryd.func52.trans (congrArg some (by kernel_rfl))
 f137:=Tryd.func51.trans (congrArg some (by kernel_rfl))
 f150:=Tryd.func28.trans (congrArg some (by kernel_rfl))
 f152:=Tryd.func41.trans (congrArg some (by kernel_rfl))
 f153:=Tryd.func36.trans (congrArg some (by kernel_rfl))
 f217:=Tryd.func62.trans (congrArg some (by kernel_rfl))
 f224:=Tryd.func53.trans (congrArg some (by kernel_rfl))
 f225:=Tryd.func54.trans (congrArg some (by kernel_rfl))
 f226:=Tryd.func42.trans (congrArg some (by kernel_rfl))
 f227:=Tryd.func43.trans (congrArg some (by kernel_rfl))
 f228:=Tryd.func44.trans (congrArg some (by kernel_rfl))
 f266:=Tryd.func65.trans (congrArg some (by kernel_rfl))
 t0:=Tryd.underlying0
 a0:=Tryd.isAgg0
 z0:=Tryd.sizeOf0
 v0:=Tryd.zeroValue0
 t3:=Tryd.underlying3
 a3:=Tryd.isAgg3
 z3:=Tryd.sizeOf3
 v3:=Tryd.zeroValue3
 t4:=Tryd.underlying4
 a4:=Tryd.isAgg4
 z4:=Tryd.sizeOf4
 v4:=Tryd.zeroValue4
 t5:=Tryd.underlying5
 a5:=Tryd.isAgg5
 z5:=Tryd.sizeOf5
 v5:=Tryd.zeroValue5
 t9:=Tryd.underlying9
 a9:=Tryd.isAgg9
 z9:=Tryd.sizeOf9
 v9:=Tryd.zeroValue9
 t21:=Tryd.underlying21
 a21:=Tryd.isAgg21
 z21:=Tryd.sizeOf21
 v21:=Tryd.zeroValue21
 t46:=Tryd.underlying88
 a46:=Tryd.isAgg88
 z46:=Tryd.sizeOf88
 v46:=Tryd.zeroValue88
 t116:=Tryd.underlying73
 a116:=Tryd.isAgg73
 z116:=Tryd.sizeOf73
 t117:=Tryd.underlying74
 a117:=Tryd.isAgg74
 z117:=Tryd.sizeOf74
 v117:=Tryd.zeroValue74
 t124:=Tryd.underlying89
 a124:=Tryd.isAgg89
 z124:=Tryd.sizeOf89
 v124:=Tryd.zeroValue89}
theorem Tryd.builderX:Builder.Extra Tryd.prog Tryd.lays156_ren:={
 sizeBuilder:=by kernel_rfl
 liesBuilder:=by kernel_rfl
 t5:=Tryd.underlying5
 a5:=Tryd.isAgg5
 z5:=Tryd.sizeOf5
 v5:=Tryd.zeroValue5
 infoByte:=by kernel_rfl
 cellsByte:=by kernel_rfl
 sizeByte:=by kernel_rfl
 neB5:=by decide}
theorem Tryd.joinNone(a:Option Addr)(c:Nat)(sep:ByteArray)(w:World):
  Calls Tryd.prog 31 #[.slice a 0 c,.string sep] w λe w'=>e= .returned (.string ⟨#[]⟩)/\w'=w:=Any.strings_Join_none Tryd.lays156 Tryd.builderX a c sep w
theorem Tryd.join(bk o c:Nat)(xs:List ByteArray)(sep:ByteArray)(w:World)(hcells: ∀ (j:Nat) x,xs[j]? =some x->w.cell? ⟨bk,o+j,none⟩=some (.string x))(hbk:bk<w.heap.size)(hN:xs.length<=140737488355328)(hcap:xs.length<=c)(hlen:(Lib.join (xs.map (·.data.toList)) sep.data.toList).length<=140737488355328):
  Calls Tryd.prog 31 #[.slice (some ⟨bk,o,none⟩) xs.length c,.string sep] w λe w'=>e= .returned (.string ⟨(Lib.join (xs.map (·.data.toList)) sep.data.toList).toArray⟩)/\Below w.heap.size w w':=Any.strings_Join Tryd.lays156 Tryd.builderX bk o c xs sep w hcells hbk hN hcap hlen
end Go.Proofs
namespace Go.Ve.D
open Go Go.Ve Go.Proofs Go.RowKit
set_option maxRecDepth 100000
theorem AaA{cvs:Array Value}(h:cvs.size=2):cvs= #[cvs.getD 0 undef,cvs.getD 1 undef]:=by
 apply Array.ext
 ·simpa using h
 ·intro i h1 h2
  have h3:i=0\/i=1:=by omega
  rcases h3 with rfl|rfl<;>simp [h]
theorem Xr {w : World} (h : Wok w) : Lib.TabIs Tryd.prog w "internal/strconv.uint64pow10" .u64 Lib.pow10Tab := by
 obtain⟨T,fz,hb⟩:=h _ rfl;unfold Lib.TabIs World.var?;rw [show Tryd.prog.globalNamed "internal/strconv.uint64pow10" = some 0 by kernel_rfl]
 simp only [Option.bind_some,hb]
def S37:Sig:=⟨[(false,(.int .i64)),(false,(.int .i64))],[(false,0,.str)]⟩
def G37(x:Int×Int):Option ByteArray:=if-9223372036854775808<=x.1/\x.1<=9223372036854775807/\x.2=10 then some ⟨(Lib.itoa x.1).toArray⟩else none
theorem c37:FT Tryd.prog 37 S37 G37:=by
 rintro ⟨n,b⟩ y h
 unfold G37 at h;split at h
 case isFalse=>cases h
 rename_i hc;obtain⟨h0,h1,h2⟩:=hc;cases h;intro w D cvs hk hD hsz hr;have r0:Rel D w noR (.c (.int .i64 n)) (cvs.getD 0 undef) noF:=hr 0 (Nat.zero_lt_succ 1);have r1:Rel D w noR (.c (.int .i64 b)) (cvs.getD 1 undef) noF:=hr 1 (Nat.lt_succ_self 1);rw [AaA hsz,r0.1,r1.1,show @Eq Int b 10 from h2]
 refine(Any.internal_strconv_FormatInt_10 Tryd.lays246 n h0 h1 w (Xr hk)).mono λe w' h=>?_
 obtain⟨rfl,k,os,rfl⟩:=h;have hd:(w.drewN k).heap=w.heap:=rfl
 have hB:Below w.heap.size w (Sort.grow (w.drewN k) os):=⟨rfl,rfl,rfl,by show _<=((w.drewN k).heap++os).size;rw [hd];simp,λi hi=>by
  show((w.drewN k).heap++os)[i]? =_;rw [hd,Array.getElem?_append_left hi],Nat.le_refl _⟩
 exact⟨_,noF,D,rfl,hB,⟨rfl,rfl,λ_ h=>h⟩,λ_ h=>h.elim,λ_ h=>h,λ_ h=>.inl h,λb h=>⟨Nat.lt_of_lt_of_le (hD b h) hB.size,λh=>h⟩⟩
theorem a37:Aj Tryd.prog 37=true:=by kernel_rfl
def S31:Sig:=⟨[(false,(.sl .str)),(false,.str)],[(false,0,.str)]⟩
def G31(x:List ByteArray×ByteArray):Option ByteArray:=if x.1.length<=140737488355328/\(Lib.join (x.1.map (·.data.toList)) x.2.data.toList).length<=140737488355328 then some ⟨(Lib.join (x.1.map (·.data.toList)) x.2.data.toList).toArray⟩else none
theorem c31:FT Tryd.prog 31 S31 G31:=by
 rintro ⟨xs,sep⟩ y h
 unfold G31 at h;split at h
 case isFalse=>cases h
 rename_i hc;obtain⟨h1,h2⟩:=hc;cases h;intro w D cvs hk hD hsz hr;have r0:Rel D w noR (.nd true false 1 xs.length λi k=>(tyV .str 0 (xs.getD i (Ty.dflt .str))).getD k .dead) (cvs.getD 0 undef) noF:=hr 0 (Nat.zero_lt_succ 1)
 have r1:Rel D w noR (.c (.string sep)) (cvs.getD 1 undef) noF:=hr 1 (Nat.lt_succ_self 1);rw [AaA hsz,r1.1];rcases r0 with⟨hn,_,hn0,_⟩|⟨b,o,cap,F,hcv,hcap,hmax,_,hcell,hi,_⟩
 ·obtain⟨a,ha⟩:=Ch hn0
  cases xs with
  |cons _ _=>simp at hn
  |nil=>
   rw [ha];refine(Tryd.joinNone _ _ sep w).mono λe w' h=>?_
   obtain⟨rfl,rfl⟩:=h;exact⟨_,noF,D,rfl,Below.refl _ _,⟨rfl,rfl,λ_ h=>h⟩,λ_ h=>h.elim,λ_ h=>h,λ_ h=>.inl h,λb h=>⟨hD b h,λh=>h⟩⟩
 ·rw [hcv]
  by_cases hx:xs.length=0
  ·cases xs with
   |cons _ _=>simp at hx
   |nil=>
    refine(Tryd.joinNone _ _ sep w).mono λe w' h=>?_
    obtain⟨rfl,rfl⟩:=h;exact⟨_,noF,D,rfl,Below.refl _ _,⟨rfl,rfl,λ_ h=>h⟩,λ_ h=>h.elim,λ_ h=>h,λ_ h=>.inl h,λb h=>⟨hD b h,λh=>h⟩⟩
  ·obtain⟨hDb,_,_⟩:=hi rfl
   have hbk:b<w.heap.size:=hD b (hDb (by omega))
   refine(Tryd.join b o cap xs sep w (λj x hj=>?_) hbk h1 hcap h2).mono λe w' h=>?_
   ·have hjl:j<xs.length:=(List.getElem?_eq_some_iff.1 hj).1
    obtain⟨v,hv,hrv⟩:=hcell j 0 hjl (by decide)
    have hv':v= .string (xs.getD j (Ty.dflt .str)):=hrv.1;rw [hv',List.getD_eq_getElem?_getD,hj,Option.getD_some]at hv;simpa using hv
   ·obtain⟨rfl,hB⟩:=h
    have hB:Below w.heap.size w w':=⟨hB.os,hB.tape,hB.output,hB.size,hB.block,Nat.le_refl _⟩;exact⟨_,noF,D,rfl,hB,⟨rfl,rfl,λ_ h=>h⟩,λ_ h=>h.elim,λ_ h=>h,λ_ h=>.inl h,λb h=>⟨Nat.lt_of_lt_of_le (hD b h) hB.size,λh=>h⟩⟩
theorem a31:Aj Tryd.prog 31=true:=by kernel_rfl
def ZF:ByteArray:=⟨#[59,47,10]⟩
def S28:Sig:=⟨[(false,.str),(false,.str)],[(false,0,.bool)]⟩
def G28(x:ByteArray×ByteArray):Option Bool:=if x.1.size<4294967281/\x.2=ZF then some (Lib.containsAny x.1.data.toList [59,47,10])else none
theorem YK:(Tryd.prog.info? (Tryd.lays150_ren.t 116)).map (λi=>(i.zero,i.size))=some (some (.agg (Array.replicate 256 (.bool false))),256):=by kernel_rfl
theorem c28:FT Tryd.prog 28 S28 G28:=by
 rintro ⟨s,t⟩ y h
 unfold G28 at h;split at h
 case isFalse=>cases h
 rename_i hc;obtain⟨h1,h2⟩:=hc;cases h;intro w D cvs hk hD hsz hr;have r0:Rel D w noR (.c (.string s)) (cvs.getD 0 undef) noF:=hr 0 (Nat.zero_lt_succ 1);have r1:Rel D w noR (.c (.string t)) (cvs.getD 1 undef) noF:=hr 1 (Nat.lt_succ_self 1);rw [AaA hsz,r0.1,r1.1,show @Eq ByteArray t ZF from h2]
 have h3:s.size<4294967281:=h1;refine(J3 Tryd.lays150 (zero_of_info YK).1 (zero_of_info YK).2 s ZF w (by decide) (by decide) h3 (λj b hb=>?_)).mono λe w' h=>?_
 ·have hm:b∈ [(59:UInt8),47,10]:=List.mem_of_getElem? hb
  simp only [List.mem_cons,List.not_mem_nil,or_false]at hm;rcases hm with rfl|rfl|rfl<;>decide
 ·obtain⟨rfl,hB⟩:=h
  exact⟨_,noF,D,rfl,hB,⟨rfl,rfl,λ_ h=>h⟩,λ_ h=>h.elim,λ_ h=>h,λ_ h=>.inl h,λb h=>⟨Nat.lt_of_lt_of_le (hD b h) hB.size,λh=>h⟩⟩
theorem a28:Aj Tryd.prog 28=true:=by kernel_rfl
end Go.Ve.D

