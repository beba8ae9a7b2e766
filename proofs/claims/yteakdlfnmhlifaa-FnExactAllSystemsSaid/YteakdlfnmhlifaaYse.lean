/- Orthogonal arrows: what the program and the reference compute. -/
import Derived.Test.YteakdlfnmhlifaaYsa
import Derived.Test.YteakdlfnmhlifaaLt
open Go.IntKind(wrap i64)
open List(range replicate mem_range length_set length_map length_range)
set_option linter.all false
namespace Go.Ve.D
open Go Go.Ve
noncomputable section
variable{c:Cat}{x y:Int}{e i m:Nat}
def dg(c:Cat)(e m:Nat)(u v:Int):List Int:=(BQ c (tT c e) (fT c m)).filter λd=>decide (T c e d.toNat=u)&&decide (T c d.toNat m=v)
def ogV(c:Cat)(e m:Nat)(u v:Int):Bool:=!(decide (T c e v.toNat=T c u.toNat m)&& !decide (((dg c e m u v).length:Int)=1))
def og(c:Cat)(e m:Nat):Bool:=(BQ c (fT c e) (fT c m)).all λu=>(BQ c (tT c e) (tT c m)).all λv=>ogV c e m u v
def Aa8(hi:i<(BQ c x y).length):0<=(BQ c x y).getD i 0/\(BQ c x y).getD i 0<(c.2.1.length:Int):=by
 obtain⟨f,A,h,_⟩:=Kl.1 (M0 (0:Int) hi);rw[h];have:f<c.2.1.length:=A;omega
theorem p149(h:Sh c)(U:e<ar c)(hm:m<ar c)(u v:Int):G149 (c,((e:Int),((m:Int),(u,v))))=some (dg c e m u v):=by
 have Y:=Cf h;have H:=W4 h;have B:(BQ c (tT c e) (fT c m)).length<=1048576:=by have:=IG (c:=c) (x:=tT c e) (y:=fT c m);omega
 unfold G149;refine A8 (by show(0:Int)<=(e:Int)/\(e:Int)<(c.2.2.1.length:Int);omega) (A8 (Ab hm) (Af (show _=some (BQ c (tT c e) (fT c m))from p148 (by show ar c<=_;omega) H _ _) ?_))
 refine gatF (p:=λd=>decide (T c e d.toNat=u)&&decide (T c d.toNat m=v)) (id:=0) B (λi hi A W=>?_) (λA=>Bf ltn rfl) rfl
 have hd:=Aa8 hi;refine Bb (ltd hi) (A8 (Ab hi) (Af (Uc h (Ab U) hd) (Af (v:=decide (T c e ((BQ c (tT c e) (fT c m)).getD i 0).toNat=u)&&decide (T c ((BQ c (tT c e) (fT c m)).getD i 0).toNat m=v)) ?_ (PS W (wr hi B)))));cases F:decide (T c e ((BQ c (tT c e) (fT c m)).getD i 0).toNat=u)
 .exact Bf F rfl
 .exact Bb F (Af (Uc h hd (Ab hm)) rfl)
theorem p145(h:Sh c)(U:e<ar c)(hm:m<ar c)(u v:Int):G145 (c,((e:Int),((m:Int),(u,v))))=some (dg c e m u v):=by
 have Y:=Cf h;have H:=W4 h;have B:(BQ c (tT c e) (fT c m)).length<=1048576:=by have:=IG (c:=c) (x:=tT c e) (y:=fT c m);omega
 unfold G145;refine A8 (by show(0:Int)<=(e:Int)/\(e:Int)<(c.2.2.1.length:Int);omega) (A8 (Ab hm) (Af (show _=some (BQ c (tT c e) (fT c m))from p126 (by show ar c<=_;omega) H _ _) ?_))
 refine gatF (p:=λd=>decide (T c e d.toNat=u)&&decide (T c d.toNat m=v)) (id:=0) B (λi hi A W=>?_) (λA=>Bf ltn rfl) rfl
 have hd:=Aa8 hi;refine Bb (ltd hi) (A8 (Ab hi) (Af (p133 h (Ab U) hd) (Af (v:=decide (T c e ((BQ c (tT c e) (fT c m)).getD i 0).toNat=u)&&decide (T c ((BQ c (tT c e) (fT c m)).getD i 0).toNat m=v)) ?_ ?_)))
 .cases F:decide (T c e ((BQ c (tT c e) (fT c m)).getD i 0).toNat=u)
  .exact Bf F rfl
  .exact Bb F (A8 (Ab hi) (Af (p133 h hd (Ab hm)) rfl))
 .have:=PS (R:=List Int) (b:=decide (T c e ((BQ c (tT c e) (fT c m)).getD i 0).toNat=u)&&decide (T c ((BQ c (tT c e) (fT c m)).getD i 0).toNat m=v)) (v:=(BQ c (tT c e) (fT c m)).getD i 0) W (wr hi B)
  rw[<-this];cases decide (T c e ((BQ c (tT c e) (fT c m)).getD i 0).toNat=u)&&decide (T c ((BQ c (tT c e) (fT c m)).getD i 0).toNat m=v)
  .rfl
  .exact A8 (Ab hi) rfl
def Nb(hi:i<(BQ c x y).length):∃f:Nat,f<ar c/\(BQ c x y).getD i 0=(f:Int):=by
 obtain⟨f,A,h,_⟩:=Kl.1 (M0 (0:Int) hi);exact⟨f,A,h⟩
def ret2{b:Bool}{n:Nat}(hi:i<n)(A:n<=1048576):(bif b then Ck (Ck (some false))else some (LO.next (wrap .i64 ((i:Int)+1))))=some (bif !b then(LO.next ((i+1:Nat):Int):LO Int (LO Int Bool))else .ret (.ret false)):=by
 rw[wr hi A];cases b<;>rfl
theorem p100(h:Sh c)(F:e<ar c)(hm:m<ar c):G100 (c,((e:Int),(m:Int)))=some (og c e m):=by
 have hl:=Cf h;have H:=W4 h;have hU:(BQ c (fT c e) (fT c m)).length<=1048576:=by have:=IG (c:=c) (x:=fT c e) (y:=fT c m);omega
 have Z:(BQ c (tT c e) (tT c m)).length<=1048576:=by have:=IG (c:=c) (x:=tT c e) (y:=tT c m);omega
 have B:(0:Int)<=(e:Int)/\(e:Int)<(c.2.2.1.length:Int):=by omega
 have A:(0:Int)<=(m:Int)/\(m:Int)<(c.2.2.1.length:Int):=by omega
 unfold G100;refine A8 (Ab F) (A8 (Ab hm) (Af (show _=some (BQ c (fT c e) (fT c m))from p148 (by show ar c<=_;omega) H _ _) ?_))
 unfold og;rw[<-Dv (0:Int) _ (BQ c (fT c e) (fT c m))];refine(Adr (n:=(BQ c (fT c e) (fT c m)).length) (p:=λi=>(BQ c (tT c e) (tT c m)).all λv=>ogV c e m ((BQ c (fT c e) (fT c m)).getD i 0) v) (r:=false) (v:=true) (id:=0) (λi hi=>?_) (Bf ltn rfl) (λ_=>rfl)).trans (by cases (range _).all _<;>rfl)
 refine Bb (ltd hi) (A8 (Ab hi) (A8 B (A8 A (Af (show _=some (BQ c (tT c e) (tT c m))from p148 (by show ar c<=_;omega) H _ _) ?_))))
 rw[<-Dv (0:Int) _ (BQ c (tT c e) (tT c m))];refine(Adr (n:=(BQ c (tT c e) (tT c m)).length) (p:=λj=>ogV c e m ((BQ c (fT c e) (fT c m)).getD i 0) ((BQ c (tT c e) (tT c m)).getD j 0)) (r:=.ret false) (v:=.next ((i+1:Nat):Int)) (id:=2) (λj hj=>?_) (Bf ltn rfl) (λ_=>?_)).trans rfl
 .obtain⟨u,Y,W⟩:=Nb hi
  obtain⟨v,hv,ev⟩:=Nb hj;refine Bb (ltd hj) (A8 (Ab hj) ?_);rw[show(BQ c (fT c e) (fT c m)).getD ((i:Int)).toNat 0=(u:Int)from W,show(BQ c (tT c e) (tT c m)).getD ((j:Int)).toNat 0=(v:Int)from ev,W,ev]
  refine Af (Uc h (Ab F) (Ab hv)) (Af (Uc h (Ab Y) (Ab hm)) (Af (v:=decide (T c e v=T c u m)&& !decide (((dg c e m u v).length:Int)=1)) ?_ (ret2 hj Z)));cases U:decide (T c e v=T c u m)
  .exact Bf U rfl
  .exact Bb U (Af (p149 h F hm _ _) rfl)
 .show some (LO.next (wrap .i64 ((i:Int)+1)))=_
  rw[wr hi hU]
theorem p91(h:Sh c)(F:e<ar c)(hm:m<ar c):G91 (c,((e:Int),(m:Int)))=some (og c e m):=by
 have hl:=Cf h;have H:=W4 h;have hU:(BQ c (fT c e) (fT c m)).length<=1048576:=by have:=IG (c:=c) (x:=fT c e) (y:=fT c m);omega
 have Z:(BQ c (tT c e) (tT c m)).length<=1048576:=by have:=IG (c:=c) (x:=tT c e) (y:=tT c m);omega
 have B:(0:Int)<=(e:Int)/\(e:Int)<(c.2.2.1.length:Int):=by omega
 have A:(0:Int)<=(m:Int)/\(m:Int)<(c.2.2.1.length:Int):=by omega
 unfold G91;refine A8 (Ab F) (A8 (Ab hm) (Af (show _=some (BQ c (fT c e) (fT c m))from p126 (by show ar c<=_;omega) H _ _) (A8 B (A8 A (Af (show _=some (BQ c (tT c e) (tT c m))from p126 (by show ar c<=_;omega) H _ _) ?_)))))
 unfold og;rw[<-Dv (0:Int) _ (BQ c (fT c e) (fT c m))];refine(Adr (n:=(BQ c (fT c e) (fT c m)).length) (p:=λi=>(BQ c (tT c e) (tT c m)).all λv=>ogV c e m ((BQ c (fT c e) (fT c m)).getD i 0) v) (r:=false) (v:=true) (id:=0) (λi hi=>?_) (Bf ltn rfl) (λ_=>rfl)).trans (by cases (range _).all _<;>rfl)
 refine Bb (ltd hi) ?_;rw[<-Dv (0:Int) _ (BQ c (tT c e) (tT c m))];refine(Adr (n:=(BQ c (tT c e) (tT c m)).length) (p:=λj=>ogV c e m ((BQ c (fT c e) (fT c m)).getD i 0) ((BQ c (tT c e) (tT c m)).getD j 0)) (r:=.ret false) (v:=.next ((i+1:Nat):Int)) (id:=2) (λj hj=>?_) (Bf ltn rfl) (λ_=>?_)).trans rfl
 .obtain⟨u,Y,W⟩:=Nb hi
  obtain⟨v,hv,ev⟩:=Nb hj;refine Bb (ltd hj) (A8 (Ab hj) ?_);rw[show(BQ c (fT c e) (fT c m)).getD ((i:Int)).toNat 0=(u:Int)from W,show(BQ c (tT c e) (tT c m)).getD ((j:Int)).toNat 0=(v:Int)from ev,W,ev]
  refine Af (p133 h (Ab F) (Ab hv)) (A8 (Ab hi) (Af (p133 h (Ab Y) (Ab hm)) (Af (v:=decide (T c e v=T c u m)&& !decide (((dg c e m u v).length:Int)=1)) ?_ (ret2 hj Z))));cases U:decide (T c e v=T c u m)
  .exact Bf U rfl
  .exact Bb U (A8 (Ab hi) (A8 (Ab hj) (Af (p145 h F hm _ _) rfl)))
 .show some (LO.next (wrap .i64 ((i:Int)+1)))=_
  rw[wr hi hU]
end
end Go.Ve.D


namespace Go.Ve.D
open Go Go.Ve
noncomputable section
variable{c:Cat}{w:List Int}{i j n:Nat}{α:Type}
def fill{α:Type}(n:Nat)(f:Nat->α)(d:α)(j:Nat):List α:=(range n).map λk=>if k<j then f k else d
def Ce{f:Nat->α}{d:α}:(fill n f d j).length=n:=by simp[fill]
def OZ{f:Nat->α}{d:α}:replicate n d=fill n f d 0:=by
 apply List.ext_getElem?;intro k;by_cases A:k<n<;>simp[fill,A]
def UB{f:Nat->α}{d:α}:fill n f d n=(range n).map f:=
 List.map_congr_left λk A=>if_pos (mem_range.1 A)
theorem Ju{f:Nat->α}{d:α}(hj:j<n):(fill n f d j).set j (f j)=fill n f d (j+1):=by
 apply List.ext_getElem?;intro k;by_cases A:k<n
 .by_cases e:k=j
  .subst e;simp[fill,A]
  .rw[List.getElem?_set_ne (Ne.symm e)]
   have:(k<j+1)=(k<j):=by apply propext;omega
   simp[fill,A,this]
 .simp[fill,A]
def Kb{f:Nat->α}{d:α}(hj:j<n):((range n).map f).getD j d=f j:=by simp[hj]
def JE(d:α){x:List α}{p:α->Bool}(hi:i<x.length):(x.take (i+1)).all p=((x.take i).all p&&p (x.getD i d)):=by
 rw[List.take_add_one,List.all_append,gEE hi,gDE,gEE hi];simp
def ot(c:Cat):List (List Bool):=(range (ar c)).map λe=>(range (ar c)).map λm=>og c e m
def rq(c:Cat)(w:List Int)(m:Nat):Bool:=w.all λe=>og c e.toNat m
def lq(c:Cat)(w:List Int)(e:Nat):Bool:=w.all λm=>og c e m.toNat
def rt(c:Cat)(w:List Int):List Int:=((range (ar c)).filter (rq c w)).map fun(i:Nat)=>(i:Int)
def lf(c:Cat)(w:List Int):List Int:=((range (ar c)).filter (lq c w)).map fun(i:Nat)=>(i:Int)
def MC{x:List α}{a b:α}:(x.set i a).set i b=x.set i b:=by simp
def D9{x:List α}{a d:α}(h:i<x.length):(x.set i a).getD i d=a:=by simp[h]
theorem p53(h:Sh c):G53 c=some (ot c):=by
 have H:=Cf h;unfold G53;refine Af (p99 c) (A8 ⟨by omega,by omega,by show 24*((ar c:Nat):Int)<=_;omega,by show((ar c:Nat):Int)<=_;omega⟩ ?_)
 have F:(replicate ((c.2.1.length:Int)).toNat ([]:List Bool))=fill (ar c) (λe=>(range (ar c)).map λm=>og c e m) [] 0:=OZ
 rw[F,Ce];refine Af (A4 (st:=λi:Nat=>((i:Int),fill (ar c) (λe=>(range (ar c)).map λm=>og c e m) [] i)) (n:=ar c) (o:=.brk 0 ((ar c:Int),fill (ar c) (λe=>(range (ar c)).map λm=>og c e m) [] (ar c))) (λi hi=>?_) (Bf ltn rfl) (λy=>by simp)) (by show some (fill (ar c) _ _ (ar c))=_;rw[UB];rfl)
 refine Bb (ltd hi) (Af (p99 c) (A8 ⟨by omega,by omega,by show 1*((ar c:Nat):Int)<=_;omega,by show((ar c:Nat):Int)<=_;omega⟩ (A8 (by rw[Ce];exact Ab hi) (A8 (by rw[length_set,Ce];exact Ab hi) ?_))))
 have B:∀a,i<((fill (ar c) (λe=>(range (ar c)).map λm=>og c e m) [] i).set i a).length:=λa=>by rw[length_set,Ce];exact hi
 have A:i<(fill (ar c) (λe=>(range (ar c)).map λm=>og c e m) [] i).length:=by rw[Ce];exact hi
 refine Af (Dc (st:=λj:Nat=>((j:Int),(fill (ar c) (λe=>(range (ar c)).map λm=>og c e m) [] i).set i (fill (ar c) (λm=>og c i m) false j))) (n:=ar c) (o:=.brk 2 ((ar c:Int),(fill (ar c) (λe=>(range (ar c)).map λm=>og c e m) [] i).set i (fill (ar c) (λm=>og c i m) false (ar c)))) ?_ (λj hj=>?_) (Bf ?_ rfl) (λy=>by simp)) ?_
 .show((0:Int),(fill (ar c) _ _ i).set i (replicate (ar c) false))=_
  rw[OZ (f:=λm=>og c i m)];rfl
 .refine Bb ?_ (A8 (Ab (B _)) (Af (p100 h hi hj) (A8 ?_ ?_)))
  .show decide ((j:Int)<((((fill (ar c) (λe=>(range (ar c)).map λm=>og c e m) [] i).set i (replicate (ar c) false)).getD i []).length:Int))=true
   rw[D9 A,List.length_replicate];exact ltd hj
  .show(0:Int)<=(j:Int)/\(j:Int)<((((fill (ar c) (λe=>(range (ar c)).map λm=>og c e m) [] i).set i (fill (ar c) (λm=>og c i m) false j)).getD i []).length:Int)
   rw[D9 A,Ce];exact Ab hj
  .show some (LO.next (wrap .i64 ((j:Int)+1),((fill (ar c) (λe=>(range (ar c)).map λm=>og c e m) [] i).set i (fill (ar c) (λm=>og c i m) false j)).set i ((((fill (ar c) (λe=>(range (ar c)).map λm=>og c e m) [] i).set i (fill (ar c) (λm=>og c i m) false j)).getD i []).set j (og c i j))))=_
   rw[D9 A,MC,Ju hj,wr hj (by omega)]
 .show decide ((ar c:Int)<((((fill (ar c) (λe=>(range (ar c)).map λm=>og c e m) [] i).set i (replicate (ar c) false)).getD i []).length:Int))=false
  rw[D9 A,List.length_replicate];exact ltn
 .show some (LO.next (wrap .i64 ((i:Int)+1),(fill (ar c) (λe=>(range (ar c)).map λm=>og c e m) [] i).set i (fill (ar c) (λm=>og c i m) false (ar c))))=_
  rw[UB,wr hi (by omega),<-Ju (f:=λe=>(range (ar c)).map λm=>og c e m) hi]
def p56(B:n<=1048576)(q:Nat->Bool):G56 ((range n).map q)=some (((range n).filter q).map fun(i:Nat)=>(i:Int)):=by
 unfold G56;rw[length_map,length_range];refine gatN (q:=q) (id:=0) B (λi hi A F=>?_) (λA=>Bf ltn rfl) rfl
 refine Bb (ltd hi) (A8 (Ab hi) ?_);rw[show((range n).map q).getD ((i:Int)).toNat false=q i from Kb hi]
 exact PS F (wr hi B)
def I3:(ot c).length=ar c:=by simp[ot]
def OC{e:Nat}(A:e<ar c):(ot c).getD e []=(range (ar c)).map λm=>og c e m:=Kb A
theorem p58(hl:ar c<=40)(Y:w.length<=1048576)(F:wi (ar c) w=true):G58 (ot c,w)=some (rt c w):=by
 unfold G58;rw[I3];refine A8 ⟨by omega,by omega,by omega,by omega⟩ ?_
 have Z:(replicate ((ar c:Int)).toNat false)=fill (ar c) (rq c w) false 0:=OZ;rw[Z];refine Af (A4 (st:=λi:Nat=>((i:Int),fill (ar c) (rq c w) false i)) (n:=ar c) (o:=.brk 0 ((ar c:Int),fill (ar c) (rq c w) false (ar c))) (λi hi=>?_) (Bf ltn rfl) (λy=>by simp)) (by show Option.bind (G56 (fill (ar c) _ _ (ar c))) _=_;rw[UB];exact Af (p56 (by omega) _) rfl)
 have H:∀a,i<((fill (ar c) (rq c w) false i).set i a).length:=λa=>by rw[length_set,Ce];exact hi
 have A:i<(fill (ar c) (rq c w) false i).length:=by rw[Ce];exact hi
 refine Bb (ltd hi) (A8 (Ab A) (Af (Dc (st:=λk:Nat=>((k:Int),(fill (ar c) (rq c w) false i).set i ((w.take k).all λe=>og c e.toNat i))) (n:=w.length) (o:=.brk 2 ((w.length:Int),(fill (ar c) (rq c w) false i).set i ((w.take w.length).all λe=>og c e.toNat i))) rfl (λk B=>?_) (Bf ltn rfl) (λy=>by simp)) ?_))
 .obtain⟨e,U,W⟩:=Z5 F B
  refine Bb (ltd B) (A8 (Ab B) (A8 (Ab (H _)) (Af (v:=(w.take k).all (λe=>og c e.toNat i)&&og c e i) ?_ (A8 (Ab (H _)) ?_))))
  .rw[show((fill (ar c) (rq c w) false i).set i ((w.take k).all λe=>og c e.toNat i)).getD ((i:Int)).toNat false=_ from D9 A]
   cases hA:(w.take k).all λe=>og c e.toNat i
   .rfl
   .rw[show w.getD ((k:Int)).toNat 0=(e:Int)from W]
    refine A8 (Ab U) ?_;rw[show(ot c).getD ((e:Int)).toNat []=_ from OC U]
    refine A8 ?_ ?_
    .rw[length_map,length_range];exact Ab hi
    .show some (((range (ar c)).map λm=>og c e m).getD i false)=some (true&&og c e i);rw[Kb hi];rfl
  .show some (LO.next (wrap .i64 ((k:Int)+1),((fill (ar c) (rq c w) false i).set i _).set i _))=_
   rw[MC,JE (0:Int) B,W,wr B Y];rfl
 .show some (LO.next (wrap .i64 ((i:Int)+1),_))=_
  rw[List.take_length,wr hi (by omega),<-Ju (f:=rq c w) hi];rfl
theorem p102(hl:ar c<=40)(Y:w.length<=1048576)(F:wi (ar c) w=true):G102 (ot c,w)=some (lf c w):=by
 unfold G102;rw[I3];refine A8 ⟨by omega,by omega,by omega,by omega⟩ ?_
 have Z:(replicate ((ar c:Int)).toNat false)=fill (ar c) (lq c w) false 0:=OZ;rw[Z];refine Af (A4 (st:=λi:Nat=>((i:Int),fill (ar c) (lq c w) false i)) (n:=ar c) (o:=.brk 0 ((ar c:Int),fill (ar c) (lq c w) false (ar c))) (λi hi=>?_) (Bf ltn rfl) (λy=>by simp)) (by show Option.bind (G56 (fill (ar c) _ _ (ar c))) _=_;rw[UB];exact Af (p56 (by omega) _) rfl)
 have H:∀a,i<((fill (ar c) (lq c w) false i).set i a).length:=λa=>by rw[length_set,Ce];exact hi
 have A:i<(fill (ar c) (lq c w) false i).length:=by rw[Ce];exact hi
 refine Bb (ltd hi) (A8 (Ab A) (Af (Dc (st:=λk:Nat=>((k:Int),(fill (ar c) (lq c w) false i).set i ((w.take k).all λm=>og c i m.toNat))) (n:=w.length) (o:=.brk 2 ((w.length:Int),(fill (ar c) (lq c w) false i).set i ((w.take w.length).all λm=>og c i m.toNat))) rfl (λk B=>?_) (Bf ltn rfl) (λy=>by simp)) ?_))
 .obtain⟨e,U,W⟩:=Z5 F B
  refine Bb (ltd B) (A8 (Ab B) (A8 (Ab (H _)) (Af (v:=(w.take k).all (λm=>og c i m.toNat)&&og c i e) ?_ (A8 (Ab (H _)) ?_))))
  .rw[show((fill (ar c) (lq c w) false i).set i ((w.take k).all λm=>og c i m.toNat)).getD ((i:Int)).toNat false=_ from D9 A]
   cases hA:(w.take k).all λm=>og c i m.toNat
   .rfl
   .rw[show(ot c).getD ((i:Int)).toNat []=_ from OC hi,show w.getD ((k:Int)).toNat 0=(e:Int)from W]
    refine A8 (Ab hi) (A8 ?_ ?_)
    .rw[length_map,length_range];exact Ab U
    .show some (((range (ar c)).map λm=>og c i m).getD e false)=some (true&&og c i e);rw[Kb U];rfl
  .show some (LO.next (wrap .i64 ((k:Int)+1),((fill (ar c) (lq c w) false i).set i _).set i _))=_
   rw[MC,JE (0:Int) B,W,wr B Y];rfl
 .show some (LO.next (wrap .i64 ((i:Int)+1),_))=_
  rw[List.take_length,wr hi (by omega),<-Ju (f:=lq c w) hi];rfl
end
end Go.Ve.D


namespace Go.Ve.D
open Go Go.Ve
noncomputable section
variable{c:Cat}{a b w:List Int}
def stopB{R S:Type}{F:Bool×Int->Option (LO (Bool×Int) R)}{n:Nat}{p:Nat->Bool}{id:Nat}{k':LO (Bool×Int) R->Option S}{r:Option S}
  (U:∀i,i<n->F (true,(i:Int))=some (.next (p i,((i+1:Nat):Int)))) (H:F (true,(n:Int))=some (.brk id (true,(n:Int)))) (h3:∀j,F (false,j)=some (.brk id (false,j)))
  (B:∀j,k' (.brk id ((range n).all p,j))=r):Option.bind (Aq F (true,(0:Int))) k'=r:=by
 have key:∀d i,i+d=n->∃j,Aq F (true,(i:Int))=some (.brk id ((List.range' i d).all p,j)):=by
  intro d
  induction d with
  |zero=>
   intro i hi;obtain rfl:i=n:=by omega
   exact⟨_,by rw[A7,H];rfl⟩
  |succ d A=>
   intro i hi;rw[A7,U i (by omega),List.range'_succ,List.all_cons]
   cases W:p i with
   |true=>exact A (i+1) (by omega)
   |false=>exact⟨_,by show Aq F (false,_)=_;rw[A7,h3];rfl⟩
 obtain⟨j,hj⟩:=key n 0 (by omega)
 refine Af hj ?_;rw[<-List.range_eq_range'];exact B j
def fin1'{b:Bool}{i j:Int}(h:i=j):(bif !b then Ck (some false)else some (LO.next i))=some (bif b then(LO.next j:LO Int Bool)else .ret false):=by subst h;cases b<;>rfl
theorem p93(h:Sh c)(U:w.length<=1048576)(B:wi (ar c) w=true):G93 (c,w)=some (rt c w):=by
 have Z:=Cf h;unfold G93;refine gatN (n:=ar c) (q:=rq c w) (id:=0) (by omega) (λi hi F Y=>?_) (λF=>Bf ltn rfl) rfl
 refine Bb (ltd hi) (stopB (n:=w.length) (p:=λk=>og c (w.getD k 0).toNat i) (id:=2) (λk A=>?_) ?_ (λj=>rfl) (λj=>?_))
 .obtain⟨e,W,H⟩:=Z5 B A
  refine Af (v:=true) (congrArg some (ltd A)) (Bb rfl (A8 (Ab A) ?_));rw[show w.getD ((k:Int)).toNat 0=(e:Int)from H,H]
  exact Af (p91 h W hi) (by rw[wr A U];rfl)
 .exact Af (v:=false) (congrArg some ltn) rfl
 .show(bif _ then _ else _)=_
  rw[Dv (0:Int) (λe=>og c e.toNat i) w]
  exact PS Y (wr hi (by omega))
theorem p94(h:Sh c)(U:w.length<=1048576)(B:wi (ar c) w=true):G94 (c,w)=some (lf c w):=by
 have Z:=Cf h;unfold G94;refine gatN (n:=ar c) (q:=lq c w) (id:=0) (by omega) (λi hi F Y=>?_) (λF=>Bf ltn rfl) rfl
 refine Bb (ltd hi) (stopB (n:=w.length) (p:=λk=>og c i (w.getD k 0).toNat) (id:=2) (λk A=>?_) ?_ (λj=>rfl) (λj=>?_))
 .obtain⟨e,W,H⟩:=Z5 B A
  refine Af (v:=true) (congrArg some (ltd A)) (Bb rfl (A8 (Ab A) ?_));rw[show w.getD ((k:Int)).toNat 0=(e:Int)from H,H]
  exact Af (p91 h hi W) (by rw[wr A U];rfl)
 .exact Af (v:=false) (congrArg some ltn) rfl
 .show(bif _ then _ else _)=_
  rw[Dv (0:Int) (λe=>og c i e.toNat) w]
  exact PS Y (wr hi (by omega))
def ext0(B:a.length=b.length)(h:∀i,i<a.length->a.getD i 0=b.getD i 0):a=b:=by
 apply List.ext_getElem B;intro i A F;have:=h i A;rwa [gDE,gEE A,gDE,gEE F]at this
theorem p105c(ha:a.length<=1048576):∃v,G105 (a,b)=some v/\decide (v=0)=decide (a=b):=by
 unfold G105;have ne:∀{i:Nat}{r:Int},r≠0->a.getD i 0≠b.getD i 0->r≠0/\a≠b:=λA h2=>⟨A,λe=>h2 (by rw[e])⟩
 have go:∀{X:LO Int Int->Option Int}{n:Nat}{o:LO Int Int},n<=a.length->n<=b.length->(∀y,o≠.next y)->(∀F,(F=fun(v0:Int)=>bif decide (v0<(a.length:Int))then bif decide (v0=(b.length:Int))then Ck (some 1)else if 0<=v0/\v0<(a.length:Int)then if 0<=v0/\v0<(b.length:Int)then bif !decide ((a.getD v0.toNat 0)=(b.getD v0.toNat 0))then if 0<=v0/\v0<(a.length:Int)then if 0<=v0/\v0<(b.length:Int)then bif decide ((a.getD v0.toNat 0)<(b.getD v0.toNat 0))then Ck (some (-1))else Ck (some 1)else none else none else some (LO.next (i64.wrap (v0+1)))else none else none else some (LO.brk 0 v0))->F (n:Int)=some o->
   ((∀i,i<n->a.getD i 0=b.getD i 0)->∃v,X o=some v/\decide (v=0)=decide (a=b))->(∀r,X (.ret r)=some r)->∃v,Option.bind (Aq F (0:Int)) X=some v/\decide (v=0)=decide (a=b)):=by
  intro X n o hna hnb ho F hF h2 hA hR;refine Cw (Q:=λr:Int=>r≠0/\a≠b) (st:=λi:Nat=>(i:Int)) (n:=n) (p:=λi=>decide (a.getD i 0=b.getD i 0)) (o:=o) (Post:=λo=>∃v,o=some v/\decide (v=0)=decide (a=b)) (λi hi=>?_) h2 ho (λZ=>hA λi hi=>of_decide_eq_true (aET.1 Z i (mem_range.2 hi))) (λhB r hr=>⟨r,hR r,by rw[dF hr.1,dF hr.2]⟩)
  have A:i<a.length:=by omega
  have h3:i<b.length:=by omega
  subst hF;refine⟨λB=>Bb (ltd A) (Bf (dF (by omega)) (A8 (Ab A) (A8 (Ab h3) (Bf (by show(!decide (a.getD i 0=b.getD i 0))=false;rw[B];rfl) (by rw[wr A ha]))))),λB=>?_⟩
  have H:=of_decide_eq_false B;cases U:decide (a.getD i 0<b.getD i 0)
  .exact⟨1,Bb (ltd A) (Bf (dF (by omega)) (A8 (Ab A) (A8 (Ab h3) (Bb (by show(!decide (a.getD i 0=b.getD i 0))=true;rw[B];rfl) (A8 (Ab A) (A8 (Ab h3) (Bf U rfl))))))),ne (by decide) H⟩
  .exact⟨-1,Bb (ltd A) (Bf (dF (by omega)) (A8 (Ab A) (A8 (Ab h3) (Bb (by show(!decide (a.getD i 0=b.getD i 0))=true;rw[B];rfl) (A8 (Ab A) (A8 (Ab h3) (Bb U rfl))))))),ne (by decide) H⟩
 by_cases hl:b.length<a.length
 .refine go (n:=b.length) (o:=.ret 1) (by omega) (by omega) (λy=>by simp) _ rfl (Bb (ltd hl) (Bb (dT rfl) rfl)) (λ_=>⟨1,rfl,?_⟩) (λr=>rfl)
  rw[dF (by decide),dF (λe=>by rw[e]at hl;omega)]
 .refine go (n:=a.length) (o:=.brk 0 (a.length:Int)) (by omega) (by omega) (λy=>by simp) _ rfl (Bf ltn rfl) (λW=>?_) (λr=>rfl)
  by_cases Y:a.length<b.length
  .exact⟨-1,Bb (dT (by show(a.length:Int)<(b.length:Int);omega)) rfl,by rw[dF (by decide),dF (λe=>by rw[e]at Y;omega)]⟩
  .refine⟨0,Bf (dF (by show ¬ (a.length:Int)<(b.length:Int);omega)) rfl,?_⟩
   rw[dT (show a=b from ext0 (by omega) W)];rfl
def p101(A:a.length<=1048576):G101 (a,b)=some (decide (a=b)):=by
 obtain⟨v,F,B⟩:=p105c (b:=b) A;unfold G101;rw[<-B];exact Af F rfl
theorem p92(B:a.length<=1048576):G92 (a,b)=some (decide (a=b)):=by
 unfold G92;by_cases A:a.length=b.length
 .refine Bf (by show(!decide ((a.length:Int)=(b.length:Int)))=false;rw[dT (by omega)];rfl) ((Adr (n:=a.length) (p:=λi=>decide (a.getD i 0=b.getD i 0)) (r:=false) (v:=true) (id:=0) (λi hi=>?_) (Bf ltn rfl) (λ_=>rfl)).trans ?_)
  .exact Bb (ltd hi) (A8 (Ab hi) (A8 (by show(0:Int)<=(i:Int)/\(i:Int)<(b.length:Int);omega) (fin1' (wr hi B))))
  .by_cases e:a=b
   .subst e;simp
   .rw[dF e]
    cases F:(range a.length).all λi=>decide (a.getD i 0=b.getD i 0)
    .rfl
    .exact absurd (ext0 A λi hi=>of_decide_eq_true (aET.1 F i (mem_range.2 hi))) e
 .exact Bb (by show(!decide ((a.length:Int)=(b.length:Int)))=true;rw[dF (by omega)];rfl) (by rw[dF (λe=>A (by rw[e]))])
end
end Go.Ve.D

