/- Orthogonal arrows: what the program and the reference compute. -/
import Derived.Test.YtlggjlgcmilmhaaSyc
import Derived.Test.YtlggjlgcmilmhaaLa
namespace Go.Ve.D
open Go Go.Ve
noncomputable section
variable{c:Cat}{x y:Int}{e i m:Nat}
def dg(c:Cat)(e m:Nat)(u v:Int):List Int:=(By c (tT c e) (fT c m)).filter λd=>decide (T c e d.toNat=u)&&decide (T c d.toNat m=v)
def ogV(c:Cat)(e m:Nat)(u v:Int):Bool:=!(decide (T c e v.toNat=T c u.toNat m)&& !decide (((dg c e m u v).length:Int)=1))
def og(c:Cat)(e m:Nat):Bool:=(By c (fT c e) (fT c m)).all λu=>(By c (tT c e) (tT c m)).all λv=>ogV c e m u v
theorem Wc(hi:i<(By c x y).length):0<=(By c x y).getD i 0/\(By c x y).getD i 0<(c.2.1.length:Int):=by
 obtain⟨f,hf,h,_⟩:=Iq.1 (Dq (0:Int) hi);rw [h];have:f<c.2.1.length:=hf;omega
theorem p46(h:Sh c)(he:e<ar c)(hm:m<ar c)(u v:Int):G46 (c,((e:Int),((m:Int),(u,v))))=some (dg c e m u v):=by
 have hl:=Cy h;have ht:=MX h;have hh:(By c (tT c e) (fT c m)).length<=1048576:=by have:=Hk (c:=c) (x:=tT c e) (y:=fT c m);omega
 unfold G46;refine A4 (by show(0:Int)<=(e:Int)/\(e:Int)<(c.2.2.1.length:Int);omega) (A4 (Ab hm) (Aa (show _=some (By c (tT c e) (fT c m))from p64 (by show ar c<=_;omega) ht _ _) ?_))
 refine gatF (p:=λd=>decide (T c e d.toNat=u)&&decide (T c d.toNat m=v)) (id:=0) hh (λi hi acc ha=>?_) (λacc=>AF ltn rfl) rfl
 have hd:=Wc hi;refine A7 (ltd hi) (A4 (Ab hi) (Aa (p43 h (Ab he) hd) (Aa (v:=decide (T c e ((By c (tT c e) (fT c m)).getD i 0).toNat=u)&&decide (T c ((By c (tT c e) (fT c m)).getD i 0).toNat m=v)) ?_ (VD ha (wr hi hh)))));cases hA:decide (T c e ((By c (tT c e) (fT c m)).getD i 0).toNat=u)
 ·exact AF hA rfl
 ·exact A7 hA (Aa (p43 h hd (Ab hm)) rfl)
theorem p80(h:Sh c)(he:e<ar c)(hm:m<ar c)(u v:Int):G80 (c,((e:Int),((m:Int),(u,v))))=some (dg c e m u v):=by
 have hl:=Cy h;have ht:=MX h;have hh:(By c (tT c e) (fT c m)).length<=1048576:=by have:=Hk (c:=c) (x:=tT c e) (y:=fT c m);omega
 unfold G80;refine A4 (by show(0:Int)<=(e:Int)/\(e:Int)<(c.2.2.1.length:Int);omega) (A4 (Ab hm) (Aa (show _=some (By c (tT c e) (fT c m))from p78 (by show ar c<=_;omega) ht _ _) ?_))
 refine gatF (p:=λd=>decide (T c e d.toNat=u)&&decide (T c d.toNat m=v)) (id:=0) hh (λi hi acc ha=>?_) (λacc=>AF ltn rfl) rfl
 have hd:=Wc hi;refine A7 (ltd hi) (A4 (Ab hi) (Aa (p79 h (Ab he) hd) (Aa (v:=decide (T c e ((By c (tT c e) (fT c m)).getD i 0).toNat=u)&&decide (T c ((By c (tT c e) (fT c m)).getD i 0).toNat m=v)) ?_ ?_)))
 ·cases hA:decide (T c e ((By c (tT c e) (fT c m)).getD i 0).toNat=u)
  ·exact AF hA rfl
  ·exact A7 hA (A4 (Ab hi) (Aa (p79 h hd (Ab hm)) rfl))
 ·have:=VD (R:=List Int) (b:=decide (T c e ((By c (tT c e) (fT c m)).getD i 0).toNat=u)&&decide (T c ((By c (tT c e) (fT c m)).getD i 0).toNat m=v)) (v:=(By c (tT c e) (fT c m)).getD i 0) ha (wr hi hh)
  rw [<-this];cases decide (T c e ((By c (tT c e) (fT c m)).getD i 0).toNat=u)&&decide (T c ((By c (tT c e) (fT c m)).getD i 0).toNat m=v)
  ·rfl
  ·exact A4 (Ab hi) rfl
theorem JM(hi:i<(By c x y).length): ∃f:Nat,f<ar c/\(By c x y).getD i 0=(f:Int):=by
 obtain⟨f,hf,h,_⟩:=Iq.1 (Dq (0:Int) hi);exact⟨f,hf,h⟩
theorem ret2{b:Bool}{n:Nat}(hi:i<n)(hn:n<=1048576):(bif b then BL (BL (some false))else some (LO.next (IntKind.wrap .i64 ((i:Int)+1))))=some (bif !b then(LO.next ((i+1:Nat):Int):LO Int (LO Int Bool))else .ret (.ret false)):=by
 rw [wr hi hn];cases b<;>rfl
theorem p53(h:Sh c)(he:e<ar c)(hm:m<ar c):G53 (c,((e:Int),(m:Int)))=some (og c e m):=by
 have hl:=Cy h;have ht:=MX h;have hU:(By c (fT c e) (fT c m)).length<=1048576:=by have:=Hk (c:=c) (x:=fT c e) (y:=fT c m);omega
 have hV:(By c (tT c e) (tT c m)).length<=1048576:=by have:=Hk (c:=c) (x:=tT c e) (y:=tT c m);omega
 have he':(0:Int)<=(e:Int)/\(e:Int)<(c.2.2.1.length:Int):=by omega
 have hm':(0:Int)<=(m:Int)/\(m:Int)<(c.2.2.1.length:Int):=by omega
 unfold G53;refine A4 (Ab he) (A4 (Ab hm) (Aa (show _=some (By c (fT c e) (fT c m))from p64 (by show ar c<=_;omega) ht _ _) ?_))
 unfold og;rw [<-CT (0:Int) _ (By c (fT c e) (fT c m))];refine(Yd (n:=(By c (fT c e) (fT c m)).length) (p:=λi=>(By c (tT c e) (tT c m)).all λv=>ogV c e m ((By c (fT c e) (fT c m)).getD i 0) v) (r:=false) (v:=true) (id:=0) (λi hi=>?_) (AF ltn rfl) (λ_=>rfl)).trans (by cases (List.range _).all _<;>rfl)
 refine A7 (ltd hi) (A4 (Ab hi) (A4 he' (A4 hm' (Aa (show _=some (By c (tT c e) (tT c m))from p64 (by show ar c<=_;omega) ht _ _) ?_))))
 rw [<-CT (0:Int) _ (By c (tT c e) (tT c m))];refine(Yd (n:=(By c (tT c e) (tT c m)).length) (p:=λj=>ogV c e m ((By c (fT c e) (fT c m)).getD i 0) ((By c (tT c e) (tT c m)).getD j 0)) (r:=.ret false) (v:=.next ((i+1:Nat):Int)) (id:=2) (λj hj=>?_) (AF ltn rfl) (λ_=>?_)).trans rfl
 ·obtain⟨u,hu,eu⟩:=JM hi
  obtain⟨v,hv,ev⟩:=JM hj;refine A7 (ltd hj) (A4 (Ab hj) ?_);rw [show(By c (fT c e) (fT c m)).getD ((i:Int)).toNat 0=(u:Int)from eu,show(By c (tT c e) (tT c m)).getD ((j:Int)).toNat 0=(v:Int)from ev,eu,ev]
  refine Aa (p43 h (Ab he) (Ab hv)) (Aa (p43 h (Ab hu) (Ab hm)) (Aa (v:=decide (T c e v=T c u m)&& !decide (((dg c e m u v).length:Int)=1)) ?_ (ret2 hj hV)));cases hA:decide (T c e v=T c u m)
  ·exact AF hA rfl
  ·exact A7 hA (Aa (p46 h he hm _ _) rfl)
 ·show some (LO.next (IntKind.wrap .i64 ((i:Int)+1)))=_
  rw [wr hi hU]
theorem p57(h:Sh c)(he:e<ar c)(hm:m<ar c):G57 (c,((e:Int),(m:Int)))=some (og c e m):=by
 have hl:=Cy h;have ht:=MX h;have hU:(By c (fT c e) (fT c m)).length<=1048576:=by have:=Hk (c:=c) (x:=fT c e) (y:=fT c m);omega
 have hV:(By c (tT c e) (tT c m)).length<=1048576:=by have:=Hk (c:=c) (x:=tT c e) (y:=tT c m);omega
 have he':(0:Int)<=(e:Int)/\(e:Int)<(c.2.2.1.length:Int):=by omega
 have hm':(0:Int)<=(m:Int)/\(m:Int)<(c.2.2.1.length:Int):=by omega
 unfold G57;refine A4 (Ab he) (A4 (Ab hm) (Aa (show _=some (By c (fT c e) (fT c m))from p78 (by show ar c<=_;omega) ht _ _) (A4 he' (A4 hm' (Aa (show _=some (By c (tT c e) (tT c m))from p78 (by show ar c<=_;omega) ht _ _) ?_)))))
 unfold og;rw [<-CT (0:Int) _ (By c (fT c e) (fT c m))];refine(Yd (n:=(By c (fT c e) (fT c m)).length) (p:=λi=>(By c (tT c e) (tT c m)).all λv=>ogV c e m ((By c (fT c e) (fT c m)).getD i 0) v) (r:=false) (v:=true) (id:=0) (λi hi=>?_) (AF ltn rfl) (λ_=>rfl)).trans (by cases (List.range _).all _<;>rfl)
 refine A7 (ltd hi) ?_;rw [<-CT (0:Int) _ (By c (tT c e) (tT c m))];refine(Yd (n:=(By c (tT c e) (tT c m)).length) (p:=λj=>ogV c e m ((By c (fT c e) (fT c m)).getD i 0) ((By c (tT c e) (tT c m)).getD j 0)) (r:=.ret false) (v:=.next ((i+1:Nat):Int)) (id:=2) (λj hj=>?_) (AF ltn rfl) (λ_=>?_)).trans rfl
 ·obtain⟨u,hu,eu⟩:=JM hi
  obtain⟨v,hv,ev⟩:=JM hj;refine A7 (ltd hj) (A4 (Ab hj) ?_);rw [show(By c (fT c e) (fT c m)).getD ((i:Int)).toNat 0=(u:Int)from eu,show(By c (tT c e) (tT c m)).getD ((j:Int)).toNat 0=(v:Int)from ev,eu,ev]
  refine Aa (p79 h (Ab he) (Ab hv)) (A4 (Ab hi) (Aa (p79 h (Ab hu) (Ab hm)) (Aa (v:=decide (T c e v=T c u m)&& !decide (((dg c e m u v).length:Int)=1)) ?_ (ret2 hj hV))));cases hA:decide (T c e v=T c u m)
  ·exact AF hA rfl
  ·exact A7 hA (A4 (Ab hi) (A4 (Ab hj) (Aa (p80 h he hm _ _) rfl)))
 ·show some (LO.next (IntKind.wrap .i64 ((i:Int)+1)))=_
  rw [wr hi hU]
end
end Go.Ve.D


namespace Go.Ve.D
open Go Go.Ve
noncomputable section
variable{c:Cat}{w:List Int}{i j n:Nat}{α:Type}
def fill{α:Type}(n:Nat)(f:Nat->α)(d:α)(j:Nat):List α:=(List.range n).map λk=>if k<j then f k else d
theorem Co{f:Nat->α}{d:α}:(fill n f d j).length=n:=by simp [fill]
theorem NT{f:Nat->α}{d:α}:List.replicate n d=fill n f d 0:=by
 apply List.ext_getElem?;intro k;by_cases hk:k<n<;>simp [fill,hk]
theorem PV{f:Nat->α}{d:α}:fill n f d n=(List.range n).map f:=
 List.map_congr_left λk hk=>if_pos (List.mem_range.1 hk)
theorem I5{f:Nat->α}{d:α}(hj:j<n):(fill n f d j).set j (f j)=fill n f d (j+1):=by
 apply List.ext_getElem?;intro k;by_cases hk:k<n
 ·by_cases e:k=j
  ·subst e;simp [fill,hk]
  ·rw [List.getElem?_set_ne (Ne.symm e)]
   have:(k<j+1)=(k<j):=by apply propext;omega
   simp [fill,hk,this]
 ·simp [fill,hk]
theorem LX{f:Nat->α}{d:α}(hj:j<n):((List.range n).map f).getD j d=f j:=by simp [hj]
theorem MJ(d:α){x:List α}{p:α->Bool}(hi:i<x.length):(x.take (i+1)).all p=((x.take i).all p&&p (x.getD i d)):=by
 rw [List.take_add_one,List.all_append,gEE hi,gDE,gEE hi];simp
def ot(c:Cat):List (List Bool):=(List.range (ar c)).map λe=>(List.range (ar c)).map λm=>og c e m
def rq(c:Cat)(w:List Int)(m:Nat):Bool:=w.all λe=>og c e.toNat m
def lq(c:Cat)(w:List Int)(e:Nat):Bool:=w.all λm=>og c e m.toNat
def rt(c:Cat)(w:List Int):List Int:=((List.range (ar c)).filter (rq c w)).map fun(i:Nat)=>(i:Int)
def lf(c:Cat)(w:List Int):List Int:=((List.range (ar c)).filter (lq c w)).map fun(i:Nat)=>(i:Int)
theorem Ly{x:List α}{a b:α}:(x.set i a).set i b=x.set i b:=by simp
theorem DZ{x:List α}{a d:α}(h:i<x.length):(x.set i a).getD i d=a:=by simp [h]
theorem p27(h:Sh c):G27 c=some (ot c):=by
 have hl:=Cy h;unfold G27;refine Aa (p33 c) (A4 ⟨by omega,by omega,by show 24*((ar c:Nat):Int)<=_;omega,by show((ar c:Nat):Int)<=_;omega⟩ ?_)
 have e0:(List.replicate ((c.2.1.length:Int)).toNat ([]:List Bool))=fill (ar c) (λe=>(List.range (ar c)).map λm=>og c e m) [] 0:=NT
 rw [e0,Co];refine Aa (CE (st:=λi:Nat=>((i:Int),fill (ar c) (λe=>(List.range (ar c)).map λm=>og c e m) [] i)) (n:=ar c) (o:=.brk 0 ((ar c:Int),fill (ar c) (λe=>(List.range (ar c)).map λm=>og c e m) [] (ar c))) (λi hi=>?_) (AF ltn rfl) (λy=>by simp)) (by show some (fill (ar c) _ _ (ar c))=_;rw [PV];rfl)
 refine A7 (ltd hi) (Aa (p33 c) (A4 ⟨by omega,by omega,by show 1*((ar c:Nat):Int)<=_;omega,by show((ar c:Nat):Int)<=_;omega⟩ (A4 (by rw [Co];exact Ab hi) (A4 (by rw [List.length_set,Co];exact Ab hi) ?_))))
 have hs: ∀a,i<((fill (ar c) (λe=>(List.range (ar c)).map λm=>og c e m) [] i).set i a).length:=λa=>by rw [List.length_set,Co];exact hi
 have hs':i<(fill (ar c) (λe=>(List.range (ar c)).map λm=>og c e m) [] i).length:=by rw [Co];exact hi
 refine Aa (C3 (st:=λj:Nat=>((j:Int),(fill (ar c) (λe=>(List.range (ar c)).map λm=>og c e m) [] i).set i (fill (ar c) (λm=>og c i m) false j))) (n:=ar c) (o:=.brk 2 ((ar c:Int),(fill (ar c) (λe=>(List.range (ar c)).map λm=>og c e m) [] i).set i (fill (ar c) (λm=>og c i m) false (ar c)))) ?_ (λj hj=>?_) (AF ?_ rfl) (λy=>by simp)) ?_
 ·show((0:Int),(fill (ar c) _ _ i).set i (List.replicate (ar c) false))=_
  rw [NT (f:=λm=>og c i m)];rfl
 ·refine A7 ?_ (A4 (Ab (hs _)) (Aa (p53 h hi hj) (A4 ?_ ?_)))
  ·show decide ((j:Int)<((((fill (ar c) (λe=>(List.range (ar c)).map λm=>og c e m) [] i).set i (List.replicate (ar c) false)).getD i []).length:Int))=true
   rw [DZ hs',List.length_replicate];exact ltd hj
  ·show(0:Int)<=(j:Int)/\(j:Int)<((((fill (ar c) (λe=>(List.range (ar c)).map λm=>og c e m) [] i).set i (fill (ar c) (λm=>og c i m) false j)).getD i []).length:Int)
   rw [DZ hs',Co];exact Ab hj
  ·show some (LO.next (IntKind.wrap .i64 ((j:Int)+1),((fill (ar c) (λe=>(List.range (ar c)).map λm=>og c e m) [] i).set i (fill (ar c) (λm=>og c i m) false j)).set i ((((fill (ar c) (λe=>(List.range (ar c)).map λm=>og c e m) [] i).set i (fill (ar c) (λm=>og c i m) false j)).getD i []).set j (og c i j))))=_
   rw [DZ hs',Ly,I5 hj,wr hj (by omega)]
 ·show decide ((ar c:Int)<((((fill (ar c) (λe=>(List.range (ar c)).map λm=>og c e m) [] i).set i (List.replicate (ar c) false)).getD i []).length:Int))=false
  rw [DZ hs',List.length_replicate];exact ltn
 ·show some (LO.next (IntKind.wrap .i64 ((i:Int)+1),(fill (ar c) (λe=>(List.range (ar c)).map λm=>og c e m) [] i).set i (fill (ar c) (λm=>og c i m) false (ar c))))=_
  rw [PV,wr hi (by omega),<-I5 (f:=λe=>(List.range (ar c)).map λm=>og c e m) hi]
theorem p54(hn:n<=1048576)(q:Nat->Bool):G54 ((List.range n).map q)=some (((List.range n).filter q).map fun(i:Nat)=>(i:Int)):=by
 unfold G54;rw [List.length_map,List.length_range];refine gatN (q:=q) (id:=0) hn (λi hi acc ha=>?_) (λacc=>AF ltn rfl) rfl
 refine A7 (ltd hi) (A4 (Ab hi) ?_);rw [show((List.range n).map q).getD ((i:Int)).toNat false=q i from LX hi]
 exact VD ha (wr hi hn)
theorem YJ:(ot c).length=ar c:=by simp [ot]
theorem YK{e:Nat}(he:e<ar c):(ot c).getD e []=(List.range (ar c)).map λm=>og c e m:=LX he
theorem p28(hl:ar c<=40)(hw:w.length<=1048576)(hwi:wi (ar c) w=true):G28 (ot c,w)=some (rt c w):=by
 unfold G28;rw [YJ];refine A4 ⟨by omega,by omega,by omega,by omega⟩ ?_
 have e0:(List.replicate ((ar c:Int)).toNat false)=fill (ar c) (rq c w) false 0:=NT;rw [e0];refine Aa (CE (st:=λi:Nat=>((i:Int),fill (ar c) (rq c w) false i)) (n:=ar c) (o:=.brk 0 ((ar c:Int),fill (ar c) (rq c w) false (ar c))) (λi hi=>?_) (AF ltn rfl) (λy=>by simp)) (by show Option.bind (G54 (fill (ar c) _ _ (ar c))) _=_;rw [PV];exact Aa (p54 (by omega) _) rfl)
 have hs: ∀a,i<((fill (ar c) (rq c w) false i).set i a).length:=λa=>by rw [List.length_set,Co];exact hi
 have hs':i<(fill (ar c) (rq c w) false i).length:=by rw [Co];exact hi
 refine A7 (ltd hi) (A4 (Ab hs') (Aa (C3 (st:=λk:Nat=>((k:Int),(fill (ar c) (rq c w) false i).set i ((w.take k).all λe=>og c e.toNat i))) (n:=w.length) (o:=.brk 2 ((w.length:Int),(fill (ar c) (rq c w) false i).set i ((w.take w.length).all λe=>og c e.toNat i))) rfl (λk hk=>?_) (AF ltn rfl) (λy=>by simp)) ?_))
 ·obtain⟨e,he,ee⟩:=Uy hwi hk
  refine A7 (ltd hk) (A4 (Ab hk) (A4 (Ab (hs _)) (Aa (v:=(w.take k).all (λe=>og c e.toNat i)&&og c e i) ?_ (A4 (Ab (hs _)) ?_))))
  ·rw [show((fill (ar c) (rq c w) false i).set i ((w.take k).all λe=>og c e.toNat i)).getD ((i:Int)).toNat false=_ from DZ hs']
   cases hA:(w.take k).all λe=>og c e.toNat i
   ·rfl
   ·rw [show w.getD ((k:Int)).toNat 0=(e:Int)from ee]
    refine A4 (Ab he) ?_;rw [show(ot c).getD ((e:Int)).toNat []=_ from YK he]
    refine A4 ?_ ?_
    ·rw [List.length_map,List.length_range];exact Ab hi
    ·show some (((List.range (ar c)).map λm=>og c e m).getD i false)=some (true&&og c e i);rw [LX hi];rfl
  ·show some (LO.next (IntKind.wrap .i64 ((k:Int)+1),((fill (ar c) (rq c w) false i).set i _).set i _))=_
   rw [Ly,MJ (0:Int) hk,ee,wr hk hw];rfl
 ·show some (LO.next (IntKind.wrap .i64 ((i:Int)+1),_))=_
  rw [List.take_length,wr hi (by omega),<-I5 (f:=rq c w) hi];rfl
theorem p31(hl:ar c<=40)(hw:w.length<=1048576)(hwi:wi (ar c) w=true):G31 (ot c,w)=some (lf c w):=by
 unfold G31;rw [YJ];refine A4 ⟨by omega,by omega,by omega,by omega⟩ ?_
 have e0:(List.replicate ((ar c:Int)).toNat false)=fill (ar c) (lq c w) false 0:=NT;rw [e0];refine Aa (CE (st:=λi:Nat=>((i:Int),fill (ar c) (lq c w) false i)) (n:=ar c) (o:=.brk 0 ((ar c:Int),fill (ar c) (lq c w) false (ar c))) (λi hi=>?_) (AF ltn rfl) (λy=>by simp)) (by show Option.bind (G54 (fill (ar c) _ _ (ar c))) _=_;rw [PV];exact Aa (p54 (by omega) _) rfl)
 have hs: ∀a,i<((fill (ar c) (lq c w) false i).set i a).length:=λa=>by rw [List.length_set,Co];exact hi
 have hs':i<(fill (ar c) (lq c w) false i).length:=by rw [Co];exact hi
 refine A7 (ltd hi) (A4 (Ab hs') (Aa (C3 (st:=λk:Nat=>((k:Int),(fill (ar c) (lq c w) false i).set i ((w.take k).all λm=>og c i m.toNat))) (n:=w.length) (o:=.brk 2 ((w.length:Int),(fill (ar c) (lq c w) false i).set i ((w.take w.length).all λm=>og c i m.toNat))) rfl (λk hk=>?_) (AF ltn rfl) (λy=>by simp)) ?_))
 ·obtain⟨e,he,ee⟩:=Uy hwi hk
  refine A7 (ltd hk) (A4 (Ab hk) (A4 (Ab (hs _)) (Aa (v:=(w.take k).all (λm=>og c i m.toNat)&&og c i e) ?_ (A4 (Ab (hs _)) ?_))))
  ·rw [show((fill (ar c) (lq c w) false i).set i ((w.take k).all λm=>og c i m.toNat)).getD ((i:Int)).toNat false=_ from DZ hs']
   cases hA:(w.take k).all λm=>og c i m.toNat
   ·rfl
   ·rw [show(ot c).getD ((i:Int)).toNat []=_ from YK hi,show w.getD ((k:Int)).toNat 0=(e:Int)from ee]
    refine A4 (Ab hi) (A4 ?_ ?_)
    ·rw [List.length_map,List.length_range];exact Ab he
    ·show some (((List.range (ar c)).map λm=>og c i m).getD e false)=some (true&&og c i e);rw [LX he];rfl
  ·show some (LO.next (IntKind.wrap .i64 ((k:Int)+1),((fill (ar c) (lq c w) false i).set i _).set i _))=_
   rw [Ly,MJ (0:Int) hk,ee,wr hk hw];rfl
 ·show some (LO.next (IntKind.wrap .i64 ((i:Int)+1),_))=_
  rw [List.take_length,wr hi (by omega),<-I5 (f:=lq c w) hi];rfl
end
end Go.Ve.D


namespace Go.Ve.D
open Go Go.Ve
noncomputable section
variable{c:Cat}{a b w:List Int}
theorem stopB{R S:Type}{F:Bool×Int->Option (LO (Bool×Int) R)}{n:Nat}{p:Nat->Bool}{id:Nat}{k':LO (Bool×Int) R->Option S}{r:Option S}
  (h1: ∀i,i<n->F (true,(i:Int))=some (.next (p i,((i+1:Nat):Int)))) (h2:F (true,(n:Int))=some (.brk id (true,(n:Int)))) (h3: ∀j,F (false,j)=some (.brk id (false,j)))
  (hk: ∀j,k' (.brk id ((List.range n).all p,j))=r):Option.bind (Ao F (true,(0:Int))) k'=r:=by
 have key: ∀d i,i+d=n->∃j,Ao F (true,(i:Int))=some (.brk id ((List.range' i d).all p,j)):=by
  intro d
  induction d with
  |zero=>
   intro i hi;obtain rfl:i=n:=by omega
   exact⟨_,by rw [Bi,h2];rfl⟩
  |succ d ih=>
   intro i hi;rw [Bi,h1 i (by omega),List.range'_succ,List.all_cons]
   cases hp:p i with
   |true=>exact ih (i+1) (by omega)
   |false=>exact⟨_,by show Ao F (false,_)=_;rw [Bi,h3];rfl⟩
 obtain⟨j,hj⟩:=key n 0 (by omega)
 refine Aa hj ?_;rw [<-List.range_eq_range'];exact hk j
theorem fin1'{b:Bool}{i j:Int}(h:i=j):(bif !b then BL (some false)else some (LO.next i))=some (bif b then(LO.next j:LO Int Bool)else .ret false):=by subst h;cases b<;>rfl
theorem p30(h:Sh c)(hw:w.length<=1048576)(hwi:wi (ar c) w=true):G30 (c,w)=some (rt c w):=by
 have hl:=Cy h;unfold G30;refine gatN (n:=ar c) (q:=rq c w) (id:=0) (by omega) (λi hi acc ha=>?_) (λacc=>AF ltn rfl) rfl
 refine A7 (ltd hi) (stopB (n:=w.length) (p:=λk=>og c (w.getD k 0).toNat i) (id:=2) (λk hk=>?_) ?_ (λj=>rfl) (λj=>?_))
 ·obtain⟨e,he,ee⟩:=Uy hwi hk
  refine Aa (v:=true) (congrArg some (ltd hk)) (A7 rfl (A4 (Ab hk) ?_));rw [show w.getD ((k:Int)).toNat 0=(e:Int)from ee,ee]
  exact Aa (p57 h he hi) (by rw [wr hk hw];rfl)
 ·exact Aa (v:=false) (congrArg some ltn) rfl
 ·show(bif _ then _ else _)=_
  rw [CT (0:Int) (λe=>og c e.toNat i) w]
  exact VD ha (wr hi (by omega))
theorem p40(h:Sh c)(hw:w.length<=1048576)(hwi:wi (ar c) w=true):G40 (c,w)=some (lf c w):=by
 have hl:=Cy h;unfold G40;refine gatN (n:=ar c) (q:=lq c w) (id:=0) (by omega) (λi hi acc ha=>?_) (λacc=>AF ltn rfl) rfl
 refine A7 (ltd hi) (stopB (n:=w.length) (p:=λk=>og c i (w.getD k 0).toNat) (id:=2) (λk hk=>?_) ?_ (λj=>rfl) (λj=>?_))
 ·obtain⟨e,he,ee⟩:=Uy hwi hk
  refine Aa (v:=true) (congrArg some (ltd hk)) (A7 rfl (A4 (Ab hk) ?_));rw [show w.getD ((k:Int)).toNat 0=(e:Int)from ee,ee]
  exact Aa (p57 h hi he) (by rw [wr hk hw];rfl)
 ·exact Aa (v:=false) (congrArg some ltn) rfl
 ·show(bif _ then _ else _)=_
  rw [CT (0:Int) (λe=>og c i e.toNat) w]
  exact VD ha (wr hi (by omega))
theorem ext0(hl:a.length=b.length)(h: ∀i,i<a.length->a.getD i 0=b.getD i 0):a=b:=by
 apply List.ext_getElem hl;intro i h1 h2;have:=h i h1;rwa [gDE,gEE h1,gDE,gEE h2]at this
theorem p84(ha:a.length<=1048576): ∃v,G84 (a,b)=some v/\decide (v=0)=decide (a=b):=by
 unfold G84;have ne: ∀ {i:Nat} {r:Int},r≠0->a.getD i 0≠b.getD i 0->r≠0/\a≠b:=λh1 h2=>⟨h1,λe=>h2 (by rw [e])⟩
 have go: ∀ {X:LO Int Int->Option Int} {n:Nat} {o:LO Int Int},n<=a.length->n<=b.length->(∀y,o≠.next y)->(∀F,(F=fun(v0:Int)=>bif decide (v0<(a.length:Int))then bif decide (v0=(b.length:Int))then BL (some 1)else if 0<=v0/\v0<(a.length:Int)then if 0<=v0/\v0<(b.length:Int)then bif !decide ((a.getD v0.toNat 0)=(b.getD v0.toNat 0))then if 0<=v0/\v0<(a.length:Int)then if 0<=v0/\v0<(b.length:Int)then bif decide ((a.getD v0.toNat 0)<(b.getD v0.toNat 0))then BL (some (-1))else BL (some 1)else none else none else some (LO.next (IntKind.i64.wrap (v0+1)))else none else none else some (LO.brk 0 v0))->F (n:Int)=some o->
   ((∀i,i<n->a.getD i 0=b.getD i 0)->∃v,X o=some v/\decide (v=0)=decide (a=b))->(∀r,X (.ret r)=some r)->∃v,Option.bind (Ao F (0:Int)) X=some v/\decide (v=0)=decide (a=b)):=by
  intro X n o hna hnb ho F hF h2 hA hR;refine Cq (Q:=λr:Int=>r≠0/\a≠b) (st:=λi:Nat=>(i:Int)) (n:=n) (p:=λi=>decide (a.getD i 0=b.getD i 0)) (o:=o) (Post:=λo=>∃v,o=some v/\decide (v=0)=decide (a=b)) (λi hi=>?_) h2 ho (λhA'=>hA λi hi=>of_decide_eq_true (aET.1 hA' i (List.mem_range.2 hi))) (λhB r hr=>⟨r,hR r,by rw [dF hr.1,dF hr.2]⟩)
  have h1:i<a.length:=by omega
  have h3:i<b.length:=by omega
  subst hF;refine⟨λhp=>A7 (ltd h1) (AF (dF (by omega)) (A4 (Ab h1) (A4 (Ab h3) (AF (by show(!decide (a.getD i 0=b.getD i 0))=false;rw [hp];rfl) (by rw [wr h1 ha]))))),λhp=>?_⟩
  have hne:=of_decide_eq_false hp;cases hlt:decide (a.getD i 0<b.getD i 0)
  ·exact⟨1,A7 (ltd h1) (AF (dF (by omega)) (A4 (Ab h1) (A4 (Ab h3) (A7 (by show(!decide (a.getD i 0=b.getD i 0))=true;rw [hp];rfl) (A4 (Ab h1) (A4 (Ab h3) (AF hlt rfl))))))),ne (by decide) hne⟩
  ·exact⟨-1,A7 (ltd h1) (AF (dF (by omega)) (A4 (Ab h1) (A4 (Ab h3) (A7 (by show(!decide (a.getD i 0=b.getD i 0))=true;rw [hp];rfl) (A4 (Ab h1) (A4 (Ab h3) (A7 hlt rfl))))))),ne (by decide) hne⟩
 by_cases hl:b.length<a.length
 ·refine go (n:=b.length) (o:=.ret 1) (by omega) (by omega) (λy=>by simp) _ rfl (A7 (ltd hl) (A7 (dT rfl) rfl)) (λ_=>⟨1,rfl,?_⟩) (λr=>rfl)
  rw [dF (by decide),dF (λe=>by rw [e]at hl;omega)]
 ·refine go (n:=a.length) (o:=.brk 0 (a.length:Int)) (by omega) (by omega) (λy=>by simp) _ rfl (AF ltn rfl) (λhall=>?_) (λr=>rfl)
  by_cases hl2:a.length<b.length
  ·exact⟨-1,A7 (dT (by show(a.length:Int)<(b.length:Int);omega)) rfl,by rw [dF (by decide),dF (λe=>by rw [e]at hl2;omega)]⟩
  ·refine⟨0,AF (dF (by show ¬ (a.length:Int)<(b.length:Int);omega)) rfl,?_⟩
   rw [dT (show a=b from ext0 (by omega) hall)];rfl
theorem p65(ha:a.length<=1048576):G65 (a,b)=some (decide (a=b)):=by
 obtain⟨v,h1,h2⟩:=p84 (b:=b) ha;unfold G65;rw [<-h2];exact Aa h1 rfl
theorem p67(ha:a.length<=1048576):G67 (a,b)=some (decide (a=b)):=by
 unfold G67;by_cases hl:a.length=b.length
 ·refine AF (by show(!decide ((a.length:Int)=(b.length:Int)))=false;rw [dT (by omega)];rfl) ((Yd (n:=a.length) (p:=λi=>decide (a.getD i 0=b.getD i 0)) (r:=false) (v:=true) (id:=0) (λi hi=>?_) (AF ltn rfl) (λ_=>rfl)).trans ?_)
  ·exact A7 (ltd hi) (A4 (Ab hi) (A4 (by show(0:Int)<=(i:Int)/\(i:Int)<(b.length:Int);omega) (fin1' (wr hi ha))))
  ·by_cases e:a=b
   ·subst e;simp
   ·rw [dF e]
    cases hA:(List.range a.length).all λi=>decide (a.getD i 0=b.getD i 0)
    ·rfl
    ·exact absurd (ext0 hl λi hi=>of_decide_eq_true (aET.1 hA i (List.mem_range.2 hi))) e
 ·exact A7 (by show(!decide ((a.length:Int)=(b.length:Int)))=true;rw [dF (by omega)];rfl) (by rw [dF (λe=>hl (by rw [e]))])
theorem p9(ha:a.length<=1048576):G9 (a,b)=some (decide (a=b)):=by
 have e:G9=G67:=rfl;rw [e];exact p67 ha
end
end Go.Ve.D

