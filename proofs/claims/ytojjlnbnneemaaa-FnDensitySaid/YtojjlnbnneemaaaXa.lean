/- Parts of trees are handed to a callee that writes them: they are cut out, and put back. -/
import Derived.Test.YtojjlnbnneemaaaVy
set_option linter.all false
namespace Go.Ve
def Zw{i k:Nat}{p:List (Nat×Nat)}{s o:Bool}{sz n:Nat}{f:Nat->Nat->V}{x:V}:upd ((i,k)::p) (.nd s o sz n f) x=.nd s o sz n λi' k'=>if i'=i/\k'=k then upd p (f i k) x else f i' k':=rfl
def Ku:∀(p:List (Nat×Nat)) (v x y:V),upd p (upd p v x) y=upd p v y
 |[],_,_,_=>rfl
 |(i,k)::p,v,x,y=>by
  cases v with
  |nd s o sz n f=>
   rw[Zw,Zw]
   congr 1
   funext i' k'
   by_cases h:i'=i/\k'=k
   .simp[h,if_true];exact Ku p _ _ _
   grind
  |_=>rfl
def Sub.upd:∀(p:List (Nat×Nat)) {v v' x:V},Sub v v'->Sub (Go.Ve.upd p v x) (Go.Ve.upd p v' x)
 |[],_,_,_,_=>Sub.refl _
 |(i,k)::p,v,v',x,h=>by
  cases v with
  |nd s o sz n f=>
   obtain⟨g,rfl,u⟩:=h;refine⟨_,rfl,λi' k' B A=>?_⟩
   by_cases E:i'=i/\k'=k
   .obtain⟨rfl,rfl⟩:=E
    simp[if_true];exact Sub.upd p (u _ _ B A)
   grind
  |c v=>
   rcases h with rfl|⟨rfl,own,sz,f,rfl⟩
   .exact Sub.refl _
   .exact .inr ⟨rfl,own,sz,_,rfl⟩
  |dead=>cases h;rfl
  |many t n f=>obtain⟨g,rfl,u⟩:=h;exact⟨g,rfl,u⟩
  |rs=>cases h;rfl
  |rp=>cases h;rfl
  |rm=>cases h;rfl
  |mp=>cases h;rfl
structure Ach(M:V->V)(S:Nat->List (Nat×Nat)->Prop):Prop where
 m:Bb M
 rs:∀id q off len,S id q->M (.rs id q off len)=.rs id q off len
 rp:∀id q i k,S id q->M (.rp id q i k)=.rp id q i k
 rm:∀id q,S id q->M (.rm id q)=.rm id q
def Ach.weak{M:V->V}{S S':Nat->List (Nat×Nat)->Prop}(A:Ach M S)(h:∀id q,S' id q->S id q):Ach M S':=
 ⟨A.m,λid q off len u=>A.rs id q off len (h id q u),λid q i k u=>A.rp id q i k (h id q u),λid q u=>A.rm id q (h id q u)⟩
abbrev PRef:=Nat×List (Nat×Nat)
end Go.Ve


namespace Go.Ve
end Go.Ve


namespace Go.Ve
end Go.Ve

