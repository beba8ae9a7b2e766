/- Parts of trees are handed to a callee that writes them: they are cut out, and put back. -/
import Derived.Test.YtgobokfkomalhaaVy
namespace Go.Ve
def dvP:List (Nat×Nat)->List (Nat×Nat)->Bool
 |(_,k)::p,(_,l)::q=>!Nat.beq k l||dvP p q
 |_,_=>false
theorem Yu{i k:Nat}{p:List (Nat×Nat)}{s o:Bool}{sz n:Nat}{f:Nat->Nat->V}{x:V}:upd ((i,k)::p) (.nd s o sz n f) x= .nd s o sz n λi' k'=>if i'=i/\k'=k then upd p (f i k) x else f i' k':=rfl
theorem Kl: ∀ (p:List (Nat×Nat)) (v x y:V),upd p (upd p v x) y=upd p v y
 | [],_,_,_=>rfl
 |(i,k)::p,v,x,y=>by
  cases v with
  |nd s o sz n f=>
   rw [Yu,Yu]
   congr 1
   funext i' k'
   by_cases h:i'=i/\k'=k
   ·simp [h,if_true];exact Kl p _ _ _
   grind
  |_=>rfl
theorem Sub.upd: ∀ (p:List (Nat×Nat)) {v v' x:V},Sub v v'->Sub (Go.Ve.upd p v x) (Go.Ve.upd p v' x)
 | [],_,_,_,_=>Sub.refl _
 |(i,k)::p,v,v',x,h=>by
  cases v with
  |nd s o sz n f=>
   obtain⟨g,rfl,hg⟩:=h;refine⟨_,rfl,λi' k' hi hk=>?_⟩
   by_cases h1:i'=i/\k'=k
   ·obtain⟨rfl,rfl⟩:=h1
    simp [if_true];exact Sub.upd p (hg _ _ hi hk)
   grind
  |c v=>
   rcases h with rfl|⟨rfl,own,sz,f,rfl⟩
   ·exact Sub.refl _
   ·exact .inr ⟨rfl,own,sz,_,rfl⟩
  |dead=>cases h;rfl
  |many t n f=>obtain⟨g,rfl,hg⟩:=h;exact⟨g,rfl,hg⟩
  |rs=>cases h;rfl
  |rp=>cases h;rfl
structure AaB(M:V->V)(S:Nat->List (Nat×Nat)->Prop):Prop where
 m:Bg M
 rs: ∀id q off len,S id q->M (.rs id q off len)= .rs id q off len
 rp: ∀id q i k,S id q->M (.rp id q i k)= .rp id q i k
theorem AaB.weak{M:V->V}{S S':Nat->List (Nat×Nat)->Prop}(hM:AaB M S)(h: ∀id q,S' id q->S id q):AaB M S':=
 ⟨hM.m,λid q off len hs=>hM.rs id q off len (h id q hs),λid q i k hs=>hM.rp id q i k (h id q hs)⟩
abbrev Oc:=Nat×List (Nat×Nat)
end Go.Ve


namespace Go.Ve
def VN(L:List (Oc×V))(i:Nat)(v:V):V:=match L with
 | []=>v
 |a::L=>VN L i (if a.1.1=i then upd a.1.2 v a.2 else v)
end Go.Ve


namespace Go.Ve
end Go.Ve

