/- Orthogonal arrows: what the program and the reference compute. -/
import Derived.Test.YtlggjlgcmilmhaaSyc
import Derived.Test.YtlggjlgcmilmhaaLa
namespace Go.Ve.D
open Go Go.Ve
noncomputable section
variable{c:Cat}{x y:Int}{e i m:Nat}
def dg(c:Cat)(e m:Nat)(u v:Int):List Int:=(Ba c (tT c e) (fT c m)).filter λd=>decide (T c e d.toNat=u)&&decide (T c d.toNat m=v)
def ogV(c:Cat)(e m:Nat)(u v:Int):Bool:=!(decide (T c e v.toNat=T c u.toNat m)&& !decide (((dg c e m u v).length:Int)=1))
def og(c:Cat)(e m:Nat):Bool:=(Ba c (fT c e) (fT c m)).all λu=>(Ba c (tT c e) (tT c m)).all λv=>ogV c e m u v
theorem JP(hi:i<(Ba c x y).length):0<=(Ba c x y).getD i 0/\(Ba c x y).getD i 0<(c.2.1.length:Int):=by
 obtain⟨f,hf,h,_⟩:=BR.1 (CO (0:Int) hi);rw [h];have:f<c.2.1.length:=hf;omega
theorem p46(h:Sh c)(he:e<ar c)(hm:m<ar c)(u v:Int):G46 (c,((e:Int),((m:Int),(u,v))))=some (dg c e m u v):=by
 have hl:=CA h;have ht:=Kg h;have hh:(Ba c (tT c e) (fT c m)).length<=1048576:=by have:=CS (c:=c) (x:=tT c e) (y:=fT c m);omega
 unfold G46;refine BU (by show(0:Int)<=(e:Int)/\(e:Int)<(c.2.2.1.length:Int);omega) (BU (Ab hm) (Ag (show _=some (Ba c (tT c e) (fT c m))from p64 (by show ar c<=_;omega) ht _ _) ?_))
 refine gatF (p:=λd=>decide (T c e d.toNat=u)&&decide (T c d.toNat m=v)) (id:=0) hh (λi hi acc ha=>?_) (λacc=>BC ltn rfl) rfl
 have hd:=JP hi;refine BV (ltd hi) (BU (Ab hi) (Ag (p43 h (Ab he) hd) (Ag (v:=decide (T c e ((Ba c (tT c e) (fT c m)).getD i 0).toNat=u)&&decide (T c ((Ba c (tT c e) (fT c m)).getD i 0).toNat m=v)) ?_ (Q1 ha (wr hi hh)))));cases hA:decide (T c e ((Ba c (tT c e) (fT c m)).getD i 0).toNat=u)
 ·exact BC hA rfl
 ·exact BV hA (Ag (p43 h hd (Ab hm)) rfl)
theorem p80(h:Sh c)(he:e<ar c)(hm:m<ar c)(u v:Int):G80 (c,((e:Int),((m:Int),(u,v))))=some (dg c e m u v):=by
 have hl:=CA h;have ht:=Kg h;have hh:(Ba c (tT c e) (fT c m)).length<=1048576:=by have:=CS (c:=c) (x:=tT c e) (y:=fT c m);omega
 unfold G80;refine BU (by show(0:Int)<=(e:Int)/\(e:Int)<(c.2.2.1.length:Int);omega) (BU (Ab hm) (Ag (show _=some (Ba c (tT c e) (fT c m))from p78 (by show ar c<=_;omega) ht _ _) ?_))
 refine gatF (p:=λd=>decide (T c e d.toNat=u)&&decide (T c d.toNat m=v)) (id:=0) hh (λi hi acc ha=>?_) (λacc=>BC ltn rfl) rfl
 have hd:=JP hi;refine BV (ltd hi) (BU (Ab hi) (Ag (p79 h (Ab he) hd) (Ag (v:=decide (T c e ((Ba c (tT c e) (fT c m)).getD i 0).toNat=u)&&decide (T c ((Ba c (tT c e) (fT c m)).getD i 0).toNat m=v)) ?_ ?_)))
 ·cases hA:decide (T c e ((Ba c (tT c e) (fT c m)).getD i 0).toNat=u)
  ·exact BC hA rfl
  ·exact BV hA (BU (Ab hi) (Ag (p79 h hd (Ab hm)) rfl))
 ·have:=Q1 (R:=List Int) (b:=decide (T c e ((Ba c (tT c e) (fT c m)).getD i 0).toNat=u)&&decide (T c ((Ba c (tT c e) (fT c m)).getD i 0).toNat m=v)) (v:=(Ba c (tT c e) (fT c m)).getD i 0) ha (wr hi hh)
  rw [<-this];cases decide (T c e ((Ba c (tT c e) (fT c m)).getD i 0).toNat=u)&&decide (T c ((Ba c (tT c e) (fT c m)).getD i 0).toNat m=v)
  ·rfl
  ·exact BU (Ab hi) rfl
theorem Mh(hi:i<(Ba c x y).length): ∃f:Nat,f<ar c/\(Ba c x y).getD i 0=(f:Int):=by
 obtain⟨f,hf,h,_⟩:=BR.1 (CO (0:Int) hi);exact⟨f,hf,h⟩
theorem ret2{b:Bool}{n:Nat}(hi:i<n)(hn:n<=1048576):(bif b then BO (BO (some false))else some (LO.next (IntKind.wrap .i64 ((i:Int)+1))))=some (bif !b then(LO.next ((i+1:Nat):Int):LO Int (LO Int Bool))else .ret (.ret false)):=by
 rw [wr hi hn];cases b<;>rfl
theorem p53(h:Sh c)(he:e<ar c)(hm:m<ar c):G53 (c,((e:Int),(m:Int)))=some (og c e m):=by
 have hl:=CA h;have ht:=Kg h;have hU:(Ba c (fT c e) (fT c m)).length<=1048576:=by have:=CS (c:=c) (x:=fT c e) (y:=fT c m);omega
 have hV:(Ba c (tT c e) (tT c m)).length<=1048576:=by have:=CS (c:=c) (x:=tT c e) (y:=tT c m);omega
 have he':(0:Int)<=(e:Int)/\(e:Int)<(c.2.2.1.length:Int):=by omega
 have hm':(0:Int)<=(m:Int)/\(m:Int)<(c.2.2.1.length:Int):=by omega
 unfold G53;refine BU (Ab he) (BU (Ab hm) (Ag (show _=some (Ba c (fT c e) (fT c m))from p64 (by show ar c<=_;omega) ht _ _) ?_))
 unfold og;rw [<-C7 (0:Int) _ (Ba c (fT c e) (fT c m))];refine(Aaz (n:=(Ba c (fT c e) (fT c m)).length) (p:=λi=>(Ba c (tT c e) (tT c m)).all λv=>ogV c e m ((Ba c (fT c e) (fT c m)).getD i 0) v) (r:=false) (v:=true) (id:=0) (λi hi=>?_) (BC ltn rfl) (λ_=>rfl)).trans (by cases (List.range _).all _<;>rfl)
 refine BV (ltd hi) (BU (Ab hi) (BU he' (BU hm' (Ag (show _=some (Ba c (tT c e) (tT c m))from p64 (by show ar c<=_;omega) ht _ _) ?_))))
 rw [<-C7 (0:Int) _ (Ba c (tT c e) (tT c m))];refine(Aaz (n:=(Ba c (tT c e) (tT c m)).length) (p:=λj=>ogV c e m ((Ba c (fT c e) (fT c m)).getD i 0) ((Ba c (tT c e) (tT c m)).getD j 0)) (r:=.ret false) (v:=.next ((i+1:Nat):Int)) (id:=2) (λj hj=>?_) (BC ltn rfl) (λ_=>?_)).trans rfl
 ·obtain⟨u,hu,eu⟩:=Mh hi
  obtain⟨v,hv,ev⟩:=Mh hj;refine BV (ltd hj) (BU (Ab hj) ?_);rw [show(Ba c (fT c e) (fT c m)).getD ((i:Int)).toNat 0=(u:Int)from eu,show(Ba c (tT c e) (tT c m)).getD ((j:Int)).toNat 0=(v:Int)from ev,eu,ev]
  refine Ag (p43 h (Ab he) (Ab hv)) (Ag (p43 h (Ab hu) (Ab hm)) (Ag (v:=decide (T c e v=T c u m)&& !decide (((dg c e m u v).length:Int)=1)) ?_ (ret2 hj hV)));cases hA:decide (T c e v=T c u m)
  ·exact BC hA rfl
  ·exact BV hA (Ag (p46 h he hm _ _) rfl)
 ·show some (LO.next (IntKind.wrap .i64 ((i:Int)+1)))=_
  rw [wr hi hU]
theorem p57(h:Sh c)(he:e<ar c)(hm:m<ar c):G57 (c,((e:Int),(m:Int)))=some (og c e m):=by
 have hl:=CA h;have ht:=Kg h;have hU:(Ba c (fT c e) (fT c m)).length<=1048576:=by have:=CS (c:=c) (x:=fT c e) (y:=fT c m);omega
 have hV:(Ba c (tT c e) (tT c m)).length<=1048576:=by have:=CS (c:=c) (x:=tT c e) (y:=tT c m);omega
 have he':(0:Int)<=(e:Int)/\(e:Int)<(c.2.2.1.length:Int):=by omega
 have hm':(0:Int)<=(m:Int)/\(m:Int)<(c.2.2.1.length:Int):=by omega
 unfold G57;refine BU (Ab he) (BU (Ab hm) (Ag (show _=some (Ba c (fT c e) (fT c m))from p78 (by show ar c<=_;omega) ht _ _) (BU he' (BU hm' (Ag (show _=some (Ba c (tT c e) (tT c m))from p78 (by show ar c<=_;omega) ht _ _) ?_)))))
 unfold og;rw [<-C7 (0:Int) _ (Ba c (fT c e) (fT c m))];refine(Aaz (n:=(Ba c (fT c e) (fT c m)).length) (p:=λi=>(Ba c (tT c e) (tT c m)).all λv=>ogV c e m ((Ba c (fT c e) (fT c m)).getD i 0) v) (r:=false) (v:=true) (id:=0) (λi hi=>?_) (BC ltn rfl) (λ_=>rfl)).trans (by cases (List.range _).all _<;>rfl)
 refine BV (ltd hi) ?_;rw [<-C7 (0:Int) _ (Ba c (tT c e) (tT c m))];refine(Aaz (n:=(Ba c (tT c e) (tT c m)).length) (p:=λj=>ogV c e m ((Ba c (fT c e) (fT c m)).getD i 0) ((Ba c (tT c e) (tT c m)).getD j 0)) (r:=.ret false) (v:=.next ((i+1:Nat):Int)) (id:=2) (λj hj=>?_) (BC ltn rfl) (λ_=>?_)).trans rfl
 ·obtain⟨u,hu,eu⟩:=Mh hi
  obtain⟨v,hv,ev⟩:=Mh hj;refine BV (ltd hj) (BU (Ab hj) ?_);rw [show(Ba c (fT c e) (fT c m)).getD ((i:Int)).toNat 0=(u:Int)from eu,show(Ba c (tT c e) (tT c m)).getD ((j:Int)).toNat 0=(v:Int)from ev,eu,ev]
  refine Ag (p79 h (Ab he) (Ab hv)) (BU (Ab hi) (Ag (p79 h (Ab hu) (Ab hm)) (Ag (v:=decide (T c e v=T c u m)&& !decide (((dg c e m u v).length:Int)=1)) ?_ (ret2 hj hV))));cases hA:decide (T c e v=T c u m)
  ·exact BC hA rfl
  ·exact BV hA (BU (Ab hi) (BU (Ab hj) (Ag (p80 h he hm _ _) rfl)))
 ·show some (LO.next (IntKind.wrap .i64 ((i:Int)+1)))=_
  rw [wr hi hU]
end
end Go.Ve.D


namespace Go.Ve.D
open Go Go.Ve
noncomputable section
variable{c:Cat}{w:List Int}{i j n:Nat}{α:Type}
def fill{α:Type}(n:Nat)(f:Nat->α)(d:α)(j:Nat):List α:=(List.range n).map λk=>if k<j then f k else d
theorem Cr{f:Nat->α}{d:α}:(fill n f d j).length=n:=by simp [fill]
theorem P4{f:Nat->α}{d:α}:List.replicate n d=fill n f d 0:=by
 apply List.ext_getElem?;intro k;by_cases hk:k<n<;>simp [fill,hk]
theorem P0{f:Nat->α}{d:α}:fill n f d n=(List.range n).map f:=
 List.map_congr_left λk hk=>if_pos (List.mem_range.1 hk)
theorem I8{f:Nat->α}{d:α}(hj:j<n):(fill n f d j).set j (f j)=fill n f d (j+1):=by
 apply List.ext_getElem?;intro k;by_cases hk:k<n
 ·by_cases e:k=j
  ·subst e;simp [fill,hk]
  ·rw [List.getElem?_set_ne (Ne.symm e)]
   have:(k<j+1)=(k<j):=by apply propext;omega
   simp [fill,hk,this]
 ·simp [fill,hk]
theorem L6{f:Nat->α}{d:α}(hj:j<n):((List.range n).map f).getD j d=f j:=by simp [hj]
theorem MO(d:α){x:List α}{p:α->Bool}(hi:i<x.length):(x.take (i+1)).all p=((x.take i).all p&&p (x.getD i d)):=by
 rw [List.take_add_one,List.all_append,gEE hi,gDE,gEE hi];simp
def ot(c:Cat):List (List Bool):=(List.range (ar c)).map λe=>(List.range (ar c)).map λm=>og c e m
def rq(c:Cat)(w:List Int)(m:Nat):Bool:=w.all λe=>og c e.toNat m
def lq(c:Cat)(w:List Int)(e:Nat):Bool:=w.all λm=>og c e m.toNat
def rt(c:Cat)(w:List Int):List Int:=((List.range (ar c)).filter (rq c w)).map fun(i:Nat)=>(i:Int)
def lf(c:Cat)(w:List Int):List Int:=((List.range (ar c)).filter (lq c w)).map fun(i:Nat)=>(i:Int)
theorem LF{x:List α}{a b:α}:(x.set i a).set i b=x.set i b:=by simp
theorem D3{x:List α}{a d:α}(h:i<x.length):(x.set i a).getD i d=a:=by simp [h]
theorem p27(h:Sh c):G27 c=some (ot c):=by
 have hl:=CA h;unfold G27;refine Ag (p33 c) (BU ⟨by omega,by omega,by show 24*((ar c:Nat):Int)<=_;omega,by show((ar c:Nat):Int)<=_;omega⟩ ?_)
 have e0:(List.replicate ((c.2.1.length:Int)).toNat ([]:List Bool))=fill (ar c) (λe=>(List.range (ar c)).map λm=>og c e m) [] 0:=P4
 rw [e0,Cr];refine Ag (CG (st:=λi:Nat=>((i:Int),fill (ar c) (λe=>(List.range (ar c)).map λm=>og c e m) [] i)) (n:=ar c) (o:=.brk 0 ((ar c:Int),fill (ar c) (λe=>(List.range (ar c)).map λm=>og c e m) [] (ar c))) (λi hi=>?_) (BC ltn rfl) (λy=>by simp)) (by show some (fill (ar c) _ _ (ar c))=_;rw [P0];rfl)
 refine BV (ltd hi) (Ag (p33 c) (BU ⟨by omega,by omega,by show 1*((ar c:Nat):Int)<=_;omega,by show((ar c:Nat):Int)<=_;omega⟩ (BU (by rw [Cr];exact Ab hi) (BU (by rw [List.length_set,Cr];exact Ab hi) ?_))))
 have hs: ∀a,i<((fill (ar c) (λe=>(List.range (ar c)).map λm=>og c e m) [] i).set i a).length:=λa=>by rw [List.length_set,Cr];exact hi
 have hs':i<(fill (ar c) (λe=>(List.range (ar c)).map λm=>og c e m) [] i).length:=by rw [Cr];exact hi
 refine Ag (Jg (st:=λj:Nat=>((j:Int),(fill (ar c) (λe=>(List.range (ar c)).map λm=>og c e m) [] i).set i (fill (ar c) (λm=>og c i m) false j))) (n:=ar c) (o:=.brk 2 ((ar c:Int),(fill (ar c) (λe=>(List.range (ar c)).map λm=>og c e m) [] i).set i (fill (ar c) (λm=>og c i m) false (ar c)))) ?_ (λj hj=>?_) (BC ?_ rfl) (λy=>by simp)) ?_
 ·show((0:Int),(fill (ar c) _ _ i).set i (List.replicate (ar c) false))=_
  rw [P4 (f:=λm=>og c i m)];rfl
 ·refine BV ?_ (BU (Ab (hs _)) (Ag (p53 h hi hj) (BU ?_ ?_)))
  ·show decide ((j:Int)<((((fill (ar c) (λe=>(List.range (ar c)).map λm=>og c e m) [] i).set i (List.replicate (ar c) false)).getD i []).length:Int))=true
   rw [D3 hs',List.length_replicate];exact ltd hj
  ·show(0:Int)<=(j:Int)/\(j:Int)<((((fill (ar c) (λe=>(List.range (ar c)).map λm=>og c e m) [] i).set i (fill (ar c) (λm=>og c i m) false j)).getD i []).length:Int)
   rw [D3 hs',Cr];exact Ab hj
  ·show some (LO.next (IntKind.wrap .i64 ((j:Int)+1),((fill (ar c) (λe=>(List.range (ar c)).map λm=>og c e m) [] i).set i (fill (ar c) (λm=>og c i m) false j)).set i ((((fill (ar c) (λe=>(List.range (ar c)).map λm=>og c e m) [] i).set i (fill (ar c) (λm=>og c i m) false j)).getD i []).set j (og c i j))))=_
   rw [D3 hs',LF,I8 hj,wr hj (by omega)]
 ·show decide ((ar c:Int)<((((fill (ar c) (λe=>(List.range (ar c)).map λm=>og c e m) [] i).set i (List.replicate (ar c) false)).getD i []).length:Int))=false
  rw [D3 hs',List.length_replicate];exact ltn
 ·show some (LO.next (IntKind.wrap .i64 ((i:Int)+1),(fill (ar c) (λe=>(List.range (ar c)).map λm=>og c e m) [] i).set i (fill (ar c) (λm=>og c i m) false (ar c))))=_
  rw [P0,wr hi (by omega),<-I8 (f:=λe=>(List.range (ar c)).map λm=>og c e m) hi]
theorem p54(hn:n<=1048576)(q:Nat->Bool):G54 ((List.range n).map q)=some (((List.range n).filter q).map fun(i:Nat)=>(i:Int)):=by
 unfold G54;rw [List.length_map,List.length_range];refine gatN (q:=q) (id:=0) hn (λi hi acc ha=>?_) (λacc=>BC ltn rfl) rfl
 refine BV (ltd hi) (BU (Ab hi) ?_);rw [show((List.range n).map q).getD ((i:Int)).toNat false=q i from L6 hi]
 exact Q1 ha (wr hi hn)
theorem YM:(ot c).length=ar c:=by simp [ot]
theorem YN{e:Nat}(he:e<ar c):(ot c).getD e []=(List.range (ar c)).map λm=>og c e m:=L6 he
theorem p28(hl:ar c<=40)(hw:w.length<=1048576)(hwi:wi (ar c) w=true):G28 (ot c,w)=some (rt c w):=by
 unfold G28;rw [YM];refine BU ⟨by omega,by omega,by omega,by omega⟩ ?_
 have e0:(List.replicate ((ar c:Int)).toNat false)=fill (ar c) (rq c w) false 0:=P4;rw [e0];refine Ag (CG (st:=λi:Nat=>((i:Int),fill (ar c) (rq c w) false i)) (n:=ar c) (o:=.brk 0 ((ar c:Int),fill (ar c) (rq c w) false (ar c))) (λi hi=>?_) (BC ltn rfl) (λy=>by simp)) (by show Option.bind (G54 (fill (ar c) _ _ (ar c))) _=_;rw [P0];exact Ag (p54 (by omega) _) rfl)
 have hs: ∀a,i<((fill (ar c) (rq c w) false i).set i a).length:=λa=>by rw [List.length_set,Cr];exact hi
 have hs':i<(fill (ar c) (rq c w) false i).length:=by rw [Cr];exact hi
 refine BV (ltd hi) (BU (Ab hs') (Ag (Jg (st:=λk:Nat=>((k:Int),(fill (ar c) (rq c w) false i).set i ((w.take k).all λe=>og c e.toNat i))) (n:=w.length) (o:=.brk 2 ((w.length:Int),(fill (ar c) (rq c w) false i).set i ((w.take w.length).all λe=>og c e.toNat i))) rfl (λk hk=>?_) (BC ltn rfl) (λy=>by simp)) ?_))
 ·obtain⟨e,he,ee⟩:=getW hwi hk
  refine BV (ltd hk) (BU (Ab hk) (BU (Ab (hs _)) (Ag (v:=(w.take k).all (λe=>og c e.toNat i)&&og c e i) ?_ (BU (Ab (hs _)) ?_))))
  ·rw [show((fill (ar c) (rq c w) false i).set i ((w.take k).all λe=>og c e.toNat i)).getD ((i:Int)).toNat false=_ from D3 hs']
   cases hA:(w.take k).all λe=>og c e.toNat i
   ·rfl
   ·rw [show w.getD ((k:Int)).toNat 0=(e:Int)from ee]
    refine BU (Ab he) ?_;rw [show(ot c).getD ((e:Int)).toNat []=_ from YN he]
    refine BU ?_ ?_
    ·rw [List.length_map,List.length_range];exact Ab hi
    ·show some (((List.range (ar c)).map λm=>og c e m).getD i false)=some (true&&og c e i);rw [L6 hi];rfl
  ·show some (LO.next (IntKind.wrap .i64 ((k:Int)+1),((fill (ar c) (rq c w) false i).set i _).set i _))=_
   rw [LF,MO (0:Int) hk,ee,wr hk hw];rfl
 ·show some (LO.next (IntKind.wrap .i64 ((i:Int)+1),_))=_
  rw [List.take_length,wr hi (by omega),<-I8 (f:=rq c w) hi];rfl
theorem p31(hl:ar c<=40)(hw:w.length<=1048576)(hwi:wi (ar c) w=true):G31 (ot c,w)=some (lf c w):=by
 unfold G31;rw [YM];refine BU ⟨by omega,by omega,by omega,by omega⟩ ?_
 have e0:(List.replicate ((ar c:Int)).toNat false)=fill (ar c) (lq c w) false 0:=P4;rw [e0];refine Ag (CG (st:=λi:Nat=>((i:Int),fill (ar c) (lq c w) false i)) (n:=ar c) (o:=.brk 0 ((ar c:Int),fill (ar c) (lq c w) false (ar c))) (λi hi=>?_) (BC ltn rfl) (λy=>by simp)) (by show Option.bind (G54 (fill (ar c) _ _ (ar c))) _=_;rw [P0];exact Ag (p54 (by omega) _) rfl)
 have hs: ∀a,i<((fill (ar c) (lq c w) false i).set i a).length:=λa=>by rw [List.length_set,Cr];exact hi
 have hs':i<(fill (ar c) (lq c w) false i).length:=by rw [Cr];exact hi
 refine BV (ltd hi) (BU (Ab hs') (Ag (Jg (st:=λk:Nat=>((k:Int),(fill (ar c) (lq c w) false i).set i ((w.take k).all λm=>og c i m.toNat))) (n:=w.length) (o:=.brk 2 ((w.length:Int),(fill (ar c) (lq c w) false i).set i ((w.take w.length).all λm=>og c i m.toNat))) rfl (λk hk=>?_) (BC ltn rfl) (λy=>by simp)) ?_))
 ·obtain⟨e,he,ee⟩:=getW hwi hk
  refine BV (ltd hk) (BU (Ab hk) (BU (Ab (hs _)) (Ag (v:=(w.take k).all (λm=>og c i m.toNat)&&og c i e) ?_ (BU (Ab (hs _)) ?_))))
  ·rw [show((fill (ar c) (lq c w) false i).set i ((w.take k).all λm=>og c i m.toNat)).getD ((i:Int)).toNat false=_ from D3 hs']
   cases hA:(w.take k).all λm=>og c i m.toNat
   ·rfl
   ·rw [show(ot c).getD ((i:Int)).toNat []=_ from YN hi,show w.getD ((k:Int)).toNat 0=(e:Int)from ee]
    refine BU (Ab hi) (BU ?_ ?_)
    ·rw [List.length_map,List.length_range];exact Ab he
    ·show some (((List.range (ar c)).map λm=>og c i m).getD e false)=some (true&&og c i e);rw [L6 he];rfl
  ·show some (LO.next (IntKind.wrap .i64 ((k:Int)+1),((fill (ar c) (lq c w) false i).set i _).set i _))=_
   rw [LF,MO (0:Int) hk,ee,wr hk hw];rfl
 ·show some (LO.next (IntKind.wrap .i64 ((i:Int)+1),_))=_
  rw [List.take_length,wr hi (by omega),<-I8 (f:=lq c w) hi];rfl
end
end Go.Ve.D


namespace Go.Ve.D
open Go Go.Ve
noncomputable section
variable{a b:List Int}
theorem stopB{R S:Type}{F:Bool×Int->Option (LO (Bool×Int) R)}{n:Nat}{p:Nat->Bool}{id:Nat}{k':LO (Bool×Int) R->Option S}{r:Option S}
  (h1: ∀i,i<n->F (true,(i:Int))=some (.next (p i,((i+1:Nat):Int)))) (h2:F (true,(n:Int))=some (.brk id (true,(n:Int)))) (h3: ∀j,F (false,j)=some (.brk id (false,j)))
  (hk: ∀j,k' (.brk id ((List.range n).all p,j))=r):Option.bind (Ap F (true,(0:Int))) k'=r:=by
 have key: ∀d i,i+d=n->∃j,Ap F (true,(i:Int))=some (.brk id ((List.range' i d).all p,j)):=by
  intro d
  induction d with
  |zero=>
   intro i hi;obtain rfl:i=n:=by omega
   exact⟨_,by rw [Bi,h2];rfl⟩
  |succ d ih=>
   intro i hi;rw [Bi,h1 i (by omega),List.range'_succ,List.all_cons]
   cases hp:p i with
   |true=>exact ih (i+1) (by omega)
   |false=>exact⟨_,by show Ap F (false,_)=_;rw [Bi,h3];rfl⟩
 obtain⟨j,hj⟩:=key n 0 (by omega)
 refine Ag hj ?_;rw [<-List.range_eq_range'];exact hk j
theorem fin1'{b:Bool}{i j:Int}(h:i=j):(bif !b then BO (some false)else some (LO.next i))=some (bif b then(LO.next j:LO Int Bool)else .ret false):=by subst h;cases b<;>rfl
theorem p30{c:Cat}(h:Sh c){w:List Int}(hw:w.length<=1048576)(hwi:wi (ar c) w=true):G30 (c,w)=some (rt c w):=by
 have hl:=CA h;unfold G30;refine gatN (n:=ar c) (q:=rq c w) (id:=0) (by omega) (λi hi acc ha=>?_) (λacc=>BC ltn rfl) rfl
 refine BV (ltd hi) (stopB (n:=w.length) (p:=λk=>og c (w.getD k 0).toNat i) (id:=2) (λk hk=>?_) ?_ (λj=>rfl) (λj=>?_))
 ·obtain⟨e,he,ee⟩:=getW hwi hk
  refine Ag (v:=true) (congrArg some (ltd hk)) (BV rfl (BU (Ab hk) ?_));rw [show w.getD ((k:Int)).toNat 0=(e:Int)from ee,ee]
  exact Ag (p57 h he hi) (by rw [wr hk hw];rfl)
 ·exact Ag (v:=false) (congrArg some ltn) rfl
 ·show(bif _ then _ else _)=_
  rw [C7 (0:Int) (λe=>og c e.toNat i) w]
  exact Q1 ha (wr hi (by omega))
theorem ext0(hl:a.length=b.length)(h: ∀i,i<a.length->a.getD i 0=b.getD i 0):a=b:=by
 apply List.ext_getElem hl;intro i h1 h2;have:=h i h1;rwa [gDE,gEE h1,gDE,gEE h2]at this
theorem p67(ha:a.length<=1048576):G67 (a,b)=some (decide (a=b)):=by
 unfold G67;by_cases hl:a.length=b.length
 ·refine BC (by show(!decide ((a.length:Int)=(b.length:Int)))=false;rw [dT (by omega)];rfl) ((Aaz (n:=a.length) (p:=λi=>decide (a.getD i 0=b.getD i 0)) (r:=false) (v:=true) (id:=0) (λi hi=>?_) (BC ltn rfl) (λ_=>rfl)).trans ?_)
  ·exact BV (ltd hi) (BU (Ab hi) (BU (by show(0:Int)<=(i:Int)/\(i:Int)<(b.length:Int);omega) (fin1' (wr hi ha))))
  ·by_cases e:a=b
   ·subst e;simp
   ·rw [dF e]
    cases hA:(List.range a.length).all λi=>decide (a.getD i 0=b.getD i 0)
    ·rfl
    ·exact absurd (ext0 hl λi hi=>of_decide_eq_true (aET.1 hA i (List.mem_range.2 hi))) e
 ·exact BV (by show(!decide ((a.length:Int)=(b.length:Int)))=true;rw [dF (by omega)];rfl) (by rw [dF (λe=>hl (by rw [e]))])
theorem p9(ha:a.length<=1048576):G9 (a,b)=some (decide (a=b)):=by
 have e:G9=G67:=rfl;rw [e];exact p67 ha
end
end Go.Ve.D

