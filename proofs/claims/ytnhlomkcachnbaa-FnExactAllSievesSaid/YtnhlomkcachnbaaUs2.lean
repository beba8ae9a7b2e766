/- The laying of slices.SortFunc; comparing lists; its contract at lists of numbers. -/
import Derived.Test.YtnhlomkcachnbaaUs1
import Derived.Test.YtnhlomkcachnbaaUso
namespace Go.Proofs
open Go.Shelf
def Try.sortL140_ren:Go.Shelf.Ren:=⟨fun|6=>140|15=>200|14=>199|28=>248|29=>249|20=>240|21=>241|22=>242|23=>243|24=>244|25=>245|26=>246|27=>247|46=>283|47=>284|48=>285|49=>286|50=>287|57=>298|n=>n,fun|22=>112|24=>115|25=>188|3=>3|39=>135|0=>0|53=>285|55=>287|4=>4|46=>278|45=>277|50=>282|5=>5|9=>9|66=>307|70=>311|76=>319|77=>320|n=>n,fun|n=>n⟩
theorem Try.sortL140:Go.Proofs.SlLaysF.n6 Try.prog Try.sortL140_ren:={
 mixed:=by kernel_rfl
 f6:=⟨Try.f140.name,by decide,Try.func140.trans (congrArg some (by kernel_rfl))⟩
 f14:=⟨Try.f199.name,by decide,Try.func199.trans (congrArg some (by kernel_rfl))⟩
 f15:=Try.func200.trans (congrArg some (by kernel_rfl))
 f20:=⟨Try.f240.name,by decide,Try.func240.trans (congrArg some (by kernel_rfl))⟩
 f21:=⟨Try.f241.name,by decide,Try.func241.trans (congrArg some (by kernel_rfl))⟩
 f22:=⟨Try.f242.name,by decide,Try.func242.trans (congrArg some (by kernel_rfl))⟩
 f23:=⟨Try.f243.name,by decide,Try.func243.trans (congrArg some (by kernel_rfl))⟩
 f24:=⟨Try.f244.name,by decide,Try.func244.trans (congrArg some (by kernel_rfl))⟩
 f25:=⟨Try.f245.name,by decide,Try.func245.trans (congrArg some (by kernel_rfl))⟩
 f26:=⟨Try.f246.name,by decide,Try.func246.trans (congrArg some (by kernel_rfl))⟩
 f27:=⟨Try.f247.name,by decide,Try.func247.trans (congrArg some (by kernel_rfl))⟩
 f28:=Try.func248.trans (congrArg some (by kernel_rfl))
 f29:=Try.func249.trans (congrArg some (by kernel_rfl))
 f46:=⟨Try.f283.name,by decide,Try.func283.trans (congrArg some (by kernel_rfl))⟩
 f47:=Try.func284.trans (congrArg some (by kernel_rfl))
 f48:=Try.func285.trans (congrArg some (by kernel_rfl))
 f49:=⟨Try.f286.name,by decide,Try.func286.trans (congrArg some (by kernel_rfl))⟩
 f50:=⟨Try.f287.name,by decide,Try.func287.trans (congrArg some (by kernel_rfl))⟩
 f57:=⟨Try.f298.name,by decide,Try.func298.trans (congrArg some (by kernel_rfl))⟩
 t0:=Try.underlying0
 a0:=Try.isAgg0
 z0:=Try.sizeOf0
 v0:=Try.zeroValue0
 t3:=Try.underlying3
 a3:=Try.isAgg3
 z3:=Try.sizeOf3
 v3:=Try.zeroValue3
 t4:=Try.underlying4
 a4:=Try.isAgg4
 z4:=Try.sizeOf4
 v4:=Try.zeroValue4
 t5:=Try.underlying5
 a5:=Try.isAgg5
 z5:=Try.sizeOf5
 v5:=Try.zeroValue5
 t9:=Try.underlying9
 a9:=Try.isAgg9
 z9:=Try.sizeOf9
 v9:=Try.zeroValue9
 t22:=Try.underlying112
 a22:=Try.isAgg112
 z22:=Try.sizeOf112
 v22:=Try.zeroValue112
 a24:=Try.isAgg115
 z24:=Try.sizeOf115
 t25:=Try.underlying188
 a25:=Try.isAgg188
 z25:=Try.sizeOf188
 v25:=Try.zeroValue188
 t39:=Try.underlying135
 a39:=Try.isAgg135
 z39:=Try.sizeOf135
 v39:=Try.zeroValue135
 t45:=Try.underlying277
 a45:=Try.isAgg277
 z45:=Try.sizeOf277
 v45:=Try.zeroValue277
 t46:=Try.underlying278
 a46:=Try.isAgg278
 z46:=Try.sizeOf278
 v46:=Try.zeroValue278
 t50:=Try.underlying282
 a50:=Try.isAgg282
 z50:=Try.sizeOf282
 v50:=Try.zeroValue282
 t53:=Try.underlying285
 a53:=Try.isAgg285
 z53:=Try.sizeOf285
 v53:=Try.zeroValue285
 t55:=Try.underlying287
 a55:=Try.isAgg287
 z55:=Try.sizeOf287
 v55:=Try.zeroValue287
 t66:=Try.underlying307
 a66:=Try.isAgg307
 z66:=Try.sizeOf307
 v66:=Try.zeroValue307
 t70:=Try.underlying311
 a70:=Try.isAgg311
 z70:=Try.sizeOf311
 v70:=Try.zeroValue311
 t76:=Try.underlying319
 a76:=Try.isAgg319
 z76:=Try.sizeOf319
 v76:=Try.zeroValue319
 t77:=Try.underlying320
 a77:=Try.isAgg320
 z77:=Try.sizeOf320
 v77:=Try.zeroValue320}
end Go.Proofs
namespace Go.Ve.D
open Go Go.Ve Go.Proofs
def Bg:List Int->List Int->Int
 | [],[]=>0
 | [],_::_=>-1
 |_::_,[]=>1
 |a::x,b::y=>if a=b then Bg x y else if a<b then-1 else 1
def okL(x:List Int):Prop:=x.length<4611686018427387904
end Go.Ve.D

