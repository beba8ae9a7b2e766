/- Factorizations, systems. -/
import Derived.Test.YtlggjlgcmilmhaaSye
namespace Go.Ve.D
open Go Go.Ve
noncomputable section
variable{c:Cat}
def clC(c:Cat)(ws:List (List Int)):Int:=bif !BM c then 1 else bif !ws.all (wi (ar c))then 2 else bif !ws.all IQ then 5 else 0
theorem p26(h:okC c){ws:List (List Int)}(hl:ws.length<=1048576)(hw: ∀w∈ws,w.length<=1048576):G26 (c,ws)=some (clC c ws):=by
 unfold G26 clC;refine Ag (p32 h) ?_;cases hc:BM c
 ·rfl
 refine BC rfl ?_;rw [<-C7 [] (wi (ar c)) ws,<-C7 [] IQ ws];have hL:ar c<=40:=CA (Bj hc)
 have e:(bif !true then(1:Int)else bif !(List.range ws.length).all (λi=>wi (ar c) (ws.getD i []))then 2 else bif !(List.range ws.length).all (λi=>IQ (ws.getD i []))then 5 else 0)=(bif(List.range ws.length).all (λi=>wi (ar c) (ws.getD i []))then(bif(List.range ws.length).all (λi=>IQ (ws.getD i []))then 0 else 5)else 2):=by
  cases (List.range ws.length).all (λi=>wi (ar c) (ws.getD i []))<;>cases (List.range ws.length).all (λi=>IQ (ws.getD i []))<;>rfl
 rw [e];refine Aaz (n:=ws.length) (p:=λi=>wi (ar c) (ws.getD i [])) (id:=0) (λi hi=>?_) (BC ltn rfl) (λ_=>?_)
 ·refine BV (ltd hi) (BU (Ab hi) (Ag (p33 c) (Ag (p51 (n:=((ar c:Nat):Int)) ?_ (hw _ (CO [] hi))) ?_)))
  ·omega
  ·show(bif !wi (ar c) (ws.getD i [])then _ else _)=_
   rw [show some (LO.next (IntKind.wrap .i64 ((i:Int)+1)))=some (LO.next (R:=Int) ((i+1:Nat):Int)) by rw [wr hi hl]]
   cases wi (ar c) (ws.getD i [])<;>rfl
 ·refine Aaz (n:=ws.length) (p:=λi=>IQ (ws.getD i [])) (id:=2) (λi hi=>?_) (BC ltn rfl) (λ_=>rfl)
  refine BV (ltd hi) (BU (Ab hi) (Ag (p52 (hw _ (CO [] hi))) ?_));rw [show some (LO.next (IntKind.wrap .i64 ((i:Int)+1)))=some (LO.next (R:=Int) ((i+1:Nat):Int)) by rw [wr hi hl]]
  show(bif !IQ (ws.getD i [])then _ else _)=_;cases IQ (ws.getD i [])<;>rfl
theorem p29(h:okC c){e m:List Int}(he:e.length<=1048576)(hm:m.length<=1048576):G29 (c,(e,m))=some (clC c [e,m]):=by
 unfold G29 clC;refine Ag (p55 h he) ?_;have hm:=p55 h hm;have r1:=p56 he;have r2:G56 m=some (IQ m):=p56 ‹m.length<=1048576›;unfold arrC at*;simp only [List.all_cons,List.all_nil,Bool.and_true];cases hc:BM c<;>rw [hc]at hm
 ·rfl
 cases h1:wi (ar c) e
 ·rfl
 refine BV rfl (Ag hm ?_);cases h2:wi (ar c) m
 ·rfl
 refine(Ag (v:=!(IQ e&&IQ m)) (BV rfl (Ag r1 ?_)) rfl).trans ?_
 ·cases IQ e
  ·rfl
  ·exact Ag r2 rfl
 ·cases IQ e<;>cases IQ m<;>rfl
theorem clC1{w:List Int}:clC c [w,[]]=clC c [w]:=by
 have e1:wi (ar c) []=true:=rfl;have e2:IQ []=true:=rfl;unfold clC;simp only [List.all_cons,List.all_nil,Bool.and_true,e1,e2]
end
end Go.Ve.D


namespace Go.Ve.D
open Go Go.Ve
noncomputable section
theorem Yi{b d:Bool}{o:Option Bool}(h:b=true->o=some d):(bif b then o else some false)=some (b&&d):=by
 cases b
 ·rfl
 ·exact h rfl
end
end Go.Ve.D

