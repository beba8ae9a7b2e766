/- Parts of trees are handed to a callee that writes them: they are cut out, and put back. -/
import Derived.Test.YtmmmafnkggaknaaGreatVy
set_option linter.all false
namespace Go.Ve
def X5{i k:Nat}{p:List (Nat×Nat)}{s o:Bool}{sz n:Nat}{f:Nat->Nat->V}{x:V}:upd ((i,k)::p) (.nd s o sz n f) x=.nd s o sz n λi' k'=>if i'=i/\k'=k then upd p (f i k) x else f i' k':=rfl
def J5:∀(p:List (Nat×Nat)) (v x y:V),upd p (upd p v x) y=upd p v y
 |[],_,_,_=>rfl
 |(i,k)::p,v,x,y=>by
  cases v with
  |nd s o sz n f=>
   rw[X5,X5]
   congr 1
   funext i' k'
   by_cases h:i'=i/\k'=k
   .simp[h,if_true];exact J5 p _ _ _
   grind
  |_=>rfl
def Sub.upd:∀(p:List (Nat×Nat)) {v v' x:V},Sub v v'->Sub (Go.Ve.upd p v x) (Go.Ve.upd p v' x)
 |[],_,_,_,_=>Sub.refl _
 |(i,k)::p,v,v',x,h=>by
  cases v with
  |nd s o sz n f=>
   obtain⟨g,rfl,e⟩:=h;refine⟨_,rfl,λi' k' A u=>?_⟩
   by_cases B:i'=i/\k'=k
   .obtain⟨rfl,rfl⟩:=B
    simp[if_true];exact Sub.upd p (e _ _ A u)
   grind
  |c v=>
   rcases h with rfl|⟨rfl,own,sz,f,rfl⟩
   .exact Sub.refl _
   .exact .inr ⟨rfl,own,sz,_,rfl⟩
  |dead=>cases h;rfl
  |many t n f=>obtain⟨g,rfl,e⟩:=h;exact⟨g,rfl,e⟩
  |rs=>cases h;rfl
  |rp=>cases h;rfl
structure Aav(M:V->V)(S:Nat->List (Nat×Nat)->Prop):Prop where
 m:Ba M
 rs:∀id q off len,S id q->M (.rs id q off len)=.rs id q off len
 rp:∀id q i k,S id q->M (.rp id q i k)=.rp id q i k
def Aav.weak{M:V->V}{S S':Nat->List (Nat×Nat)->Prop}(e:Aav M S)(h:∀id q,S' id q->S id q):Aav M S':=
 ⟨e.m,λid q off len hs=>e.rs id q off len (h id q hs),λid q i k hs=>e.rp id q i k (h id q hs)⟩
abbrev PRef:=Nat×List (Nat×Nat)
end Go.Ve


namespace Go.Ve
end Go.Ve


namespace Go.Ve
end Go.Ve

