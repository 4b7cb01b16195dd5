/- Parts of the proof: walks of functions and plain laws. -/
import Derived.Test.YtnioemnkfojmkaaGreatP5
import Derived.Laws.CopyOwn
set_option maxRecDepth 100000
set_option maxHeartbeats 16000000
namespace Go.Proofs.YtnioemnkfojmkaaGreat
open Go Go.RowKit
theorem abI {l:List (List Int)} {t x:List Int} {q i:Nat} (hs:eR l) (hx:l[q]?=some x) (h:eu x t<0) (_:i<=q):∀(k:Nat) (y:List Int),k<q+1->l[k]?=some y->eu y t<0:=by
 intro k y hk hy;rcases Zbi k q with h1 | h1
 ·exact nT (hs k q y x h1 hy hx) h
 ·obtain rfl:k=q:=zO
  rw[hx]at hy;cases hy;exact h
theorem abJ {l:List (List Int)} {t x:List Int} {q:Nat} (hs:eR l) (hx:l[q]?=some x) (h:0<=eu x t):∀(k:Nat) (y:List Int),q<=k->l[k]?=some y->0<=eu y t:=by
 intro k y hk hy;refine Int.not_lt.1 fun hn=>?_
 replace h:=Int.not_lt.2 h
 rcases Zbi q k with h1 | h1
 ·exact h (nT (hs q k x y h1 hx hy) hn)
 ·obtain rfl:k=q:=zO
  rw[hx]at hy;cases hy;exact h hn
theorem QY {a b:Int} {c d:Bool} (h1:a=b) (h2:c=d):Ending.returned (.tuple #[.int .i64 a,.bool c])=.returned (.tuple #[.int .i64 b,.bool d]):=by rw[h1,h2]
theorem iV (a b:Int) (w:World):Calls Tryz.prog 159 #[.int .i64 a,.int .i64 b] w fun e w'=>e=.returned (.int .i64 (min a b))/\w=w':=by
 by_cases h:a<b
 ·have hm:min a b=a:=zO
  rw[hm]
  go_enter Tryz.func159,Tryz.ntmps159
  go_wp2;go_ret;exact⟨rfl,rfl⟩
 ·have hm:min a b=b:=zO
  rw[hm]
  go_enter Tryz.func159,Tryz.ntmps159
  go_wp2;go_ret;exact⟨rfl,rfl⟩
theorem Ad:∀args w,(callFunc 133 args).run Tryz.prog w=.ok (.enter 133 args) w:=enters_of Tryz.func133 zK rfl
theorem GH (v u:Value) (l:List (List Int)) (t:List Int) (w:World) (h:bS w v l) (h':bs w u t) (hs:eR l) (oU:l.length<=1048576):
  Calls Tryz.prog 181 #[v,u,.func (.func 133) #[] #[]] w fun e w'=>∃i:Int,e=.returned (.tuple #[.int .i64 i,.bool (l.contains t)])/\Below w.heap.size w w':=by
 obtain⟨H,H2,Hs⟩:=B_ h h' hs;obtain⟨A,c,rfl,fR,hm,-⟩:=h;obtain⟨A2,c2,rfl,J4,gC,-⟩:=h';unfold maxLen at hm gC;have hm4:l.length<4611686018427387904:=zO
 have eg:=Ad;clear hs
 go_enter Tryz.func181,Tryz.ntmps181
 go_wp2
 go_loopw [9,10] (fun a b wr=>∃i j:Nat,i<=j/\j<=l.length/\a=.int .i64 i/\b=.int .i64 j/\((∀(k:Nat) (x:List Int),k<i->l[k]?=some x->eu x t<0)/\(∀(k:Nat) (x:List Int),j<=k->l[k]?=some x->0<=eu x t))/\Below w.heap.size w wr) (fun a b _=>(intOf b).toNat-(intOf a).toNat)
 case atStart=>exact⟨0,l.length,Zac _,Zaj _,rfl,rfl,⟨fun k x hk=>zO,fun k x hk hx=>zX (ah hx)⟩,Zaf _ _⟩
 case round=>
  obtain⟨i,j,PP,hj,rfl,rfl,hI,hb⟩:=hrel;obtain⟨HI,Hb⟩:=A_ hI hb;clear hI hb
  by_cases aA:i<j
  ·have hq:(i+j)/2<l.length:=zO
   obtain⟨x,b,off,A1,z,hx,rfl,dk,dP,dY,na⟩:=fw H (k:=(i+j)/2) hq;have hc:=bc Hb dk;obtain⟨Hx,HX,HT⟩:=B_ hx (na.agU Hb.out) (H2.out.agU Hb.out);obtain⟨cv,EH⟩:=K_ (eu x t)
   have zW:=zh EH;clear hx na dk EH
   by_cases np:cv<0
   ·go_wp2_with fail;refine(fV _ _ x t _ HX HT).mono ?_;rw[zW.out];rintro e w1 ⟨rfl,aP⟩;have VN:=zh (Hb.out.trans (aP.mono Hb.out.size));clear aP;go_wp2;go_roundw
    exact⟨(i+j)/2+1,j,zO,hj,zM,rfl,⟨abI Hs Hx (by rw[zW.out];exact np) (Zaj _),HI.2⟩,VN⟩
    simp[intOf];omega
   ·go_wp2_with fail;refine(fV _ _ x t _ HX HT).mono ?_;rw[zW.out];rintro e w1 ⟨rfl,aP⟩;have VN:=zh (Hb.out.trans (aP.mono Hb.out.size));clear aP;go_wp2;go_roundw
    exact⟨i,(i+j)/2,zO,zO,rfl,zM,⟨HI.1,abJ Hs Hx (by rw[zW.out];omega)⟩,VN.out⟩
    simp[intOf];omega
  ·obtain rfl:i=j:=zO
   obtain⟨r,hr⟩:=K_ (l.contains t)
   have Hr:=zh hr;clear hr;have hf:=zh (QG Hs.out HI.out.1 (fun k x h1 h2=>Int.not_lt.2 (HI.out.2 k x h1 h2)))
   by_cases cH:i<l.length
   ·obtain⟨x,b,off,A1,z,hx,rfl,dk,dP,dY,na⟩:=fw H cH;have hc:=bc Hb dk
    have Hf:Hid ((eu x t==0)=l.contains t):=by have:=hf.out;rw[hx]at this;exact this
    obtain⟨HX,HT⟩:=A_ (na.agU Hb.out) (H2.out.agU Hb.out);obtain⟨cv,EH⟩:=K_ (eu x t)
    have zW:=zh EH;clear hx na dk EH hf;go_wp2_with fail;refine(fV _ _ x t _ HX HT).mono ?_;rw[zW.out];rintro e w1 ⟨rfl,aP⟩;have VN:=zh (Hb.out.trans (aP.mono Hb.out.size));clear aP;go_wp2
    go_ret2
    exact⟨(i:Int),QY rfl (by rw[<- Hf.out,zW.out]),VN⟩
   ·have Hf:Hid (false=l.contains t):=by have:=hf.out;rw[Zce zO]at this;exact this
    clear hf;go_wp2
    go_ret2
    exact⟨(i:Int),QY rfl (by rw[<- Hf.out]),Hb⟩
theorem Ae (v u:Value) (l:List (List Int)) (xs:List Int) (w:World) (h:bS w v l) (h':bs w u xs) (hs:eR l) (oU:l.length<=1048576) (hl:xs.length<=1000):
  Calls Tryz.prog 143 #[v,u] w fun e w'=>e=.returned (.bool (l.contains (dz xs)))/\Below w.heap.size w w':=by
 obtain⟨H,H2,Hs⟩:=B_ h h' hs;obtain⟨A2,c2,rfl,J4,gC,-⟩:=h';clear h hs
 go_enter Tryz.func143,Tryz.ntmps143
 go_wp2_with (go_at_call 183;refine(callsIn_wide.1 (Nx 1 _ _ _ _)).mono ?_;rintro e w1 ⟨rfl,lD⟩;have QZ:=zh lD;clear lD)
 have aP:Below w.heap.size w w1:=by rw[QZ.out];exact am _ _
 have dk:w1.cell? ⟨w.heap.size,0,none⟩=some (.slice A2 xs.length c2):=by rw[QZ.out];simp
 obtain⟨jR,U0⟩:=A_ aP dk;clear aP dk QZ;go_wp2_with fail;refine(callsIn_wide.1 (Nz 5 zO w.heap.size _ xs _ U0 (H2.agU jR) hl)).mono ?_;rintro e w2 ⟨s,rfl,ho,aS⟩;obtain⟨oN,Ho⟩:=A_ (jR.out.trans (aS.mono jR.out.size)) ho.ints;clear aS ho;go_wp2_with fail;obtain⟨r,hr⟩:=K_ (l.contains (dz xs))
 have Hr:=zh hr;clear hr;refine(GH v s l (dz xs) _ (H.agU oN) Ho Hs oU).mono ?_;rw[Hr.out];rintro e w3 ⟨i,rfl,er⟩;have tF:=zh (oN.out.trans (er.mono oN.out.size));clear er;go_wp2;go_ret;exact⟨bG Hr.symm,tF⟩
theorem NK {w:World} {b:Nat} {x y:Int} (h0:w.cell? ⟨b,0,none⟩=some (.int .i64 x)) (h1:w.cell? ⟨b,1,none⟩=some (.int .i64 y)):bs w (.slice (some ⟨b,0,none⟩) 2 2) [x,y]:=by
 refine⟨_,2,rfl,Zaj _,by unfold maxLen;omega,fun k z hk=>⟨b,0,rfl,?_⟩⟩
 match k,hk with
 | 0,hk=>simp at hk;subst hk;exact h0
 | 1,hk=>simp at hk;subst hk;exact h1
 | k+2,hk=>simp at hk
theorem DC (W:World) (x y:Int):bs (W.alloc (.cells #[.int .i64 x,.int .i64 y] 3)) (.slice (some ⟨W.heap.size,0,none⟩) 2 2) [x,y]:=NK zS zS
theorem rh (pa pb:Value) (p:aq) (a b:Int) (w:World) (h:el w pa pb p) (hs:eR p.agW) (oU:p.agW.length<=1048576):
  Calls Tryz.prog 94 #[.agg #[.int .i64 p.labels,.int .i64 p.degree,pa,pb],.int .i64 a,.int .i64 b] w fun e w'=>e=.returned (.bool (edgeB p a b))/\Below w.heap.size w w':=by
 obtain⟨w0,P0,iG,P1,it,rfl,rfl,jj,jk,jl,jm,jn,jo,HP,cD,aY,fp,fE,fM,ku⟩:=UZ h;clear h
 have Hs:=zh hs;clear hs;have Ka:=zh (show ∀X,ab w0 X->bS X (.slice P1 p.agW.length it) p.agW from fun X hX=>(HP.out.agU hX).2)
 go_enter Tryz.func94,Tryz.ntmps94
 go_upto_region 1 with(fail);rw[<- cD.out];have aK:ab w0 w0:=aa _;go_wp2_with fail;refine(Ae _ _ p.agW [a,b] _ (Ka _ (ad _ aK)) (DC w0 a b) Hs oU zS).mono ?_;rw[Nr];obtain⟨r,hr⟩:=K_ (edgeB p a b)
 have Hr:=zh hr;clear hr;rw[show p.agW.contains [min a b,max a b]=r from Hr.out]
 rintro e w1 ⟨rfl,aP⟩;have HS:=zh (ab.trans (ad (.cells #[.int .i64 a,.int .i64 b] 3) aK) aP);clear aP aK;go_wp2;go_ret;exact⟨bG Hr.symm,ab.after aY HS⟩
theorem Af (pa pb:Value) (p:aq) (a b:Int) (w:World) (h:el w pa pb p) (_:eR p.agW) (_:p.agW.length<=1048576):
  Calls Tryz.prog 142 #[.agg #[.int .i64 p.labels,.int .i64 p.degree,pa,pb],.int .i64 a,.int .i64 b] w fun e w'=>e=.returned (.bool (edgeB p a b))/\Below w.heap.size w w':=by
 obtain⟨w0,P0,iG,P1,it,rfl,rfl,jj,jk,jl,jm,jn,jo,HP,cD,aY,fp,fE,fM,ku⟩:=UZ h;clear h
 have Ka:=zh (show ∀X,ab w0 X->bS X (.slice P1 p.agW.length it) p.agW from fun X hX=>(HP.out.agU hX).2)
 go_enter Tryz.func142,Tryz.ntmps142
 go_upto_region 1 with(fail);rw[<- cD.out];refine nV (w0:=w0) [fun V W=>V 0=.pointer (some ⟨w.heap.size,3,none⟩),fun V W=>V 1=.slice P1 p.agW.length it,fun V W=>V 2=.int .i64 a,fun V W=>V 3=.int .i64 b,fun V W=>V 4=.int .i64 (min a b),fun V W=>V 5=.int .i64 a,fun V W=>V 6=.int .i64 b,fun V W=>V 7=.int .i64 (max a b),fun V W=>bs W (V 8) [min a b,max a b],fun V W=>V 9=.bool (edgeB p a b),fun V W=>V 10=.bool (edgeB p a b)] ?_ ?_ 11 zK zK zK (aa _) ?_ ?_
 ·intro r hr V W W' h hs;simp only[Zbe,List.not_mem_nil,or_false]at hr;rcases hr with rfl | rfl | rfl | rfl | rfl | rfl | rfl | rfl | rfl | rfl | rfl
  ·exact h
  ·exact h
  ·exact h
  ·exact h
  ·exact(h)
  ·exact h
  ·exact h
  ·exact(h)
  ·exact(h.agU hs)
  ·exact(h)
  ·exact(h)
 ·intro j r hj V V' W h1 h2 h
  match j,hj with
  | 0,hj=>
   obtain rfl:=Zbx hj
   have h3:V 0=.pointer (some ⟨w.heap.size,3,none⟩):=h;show V' 0=.pointer (some ⟨w.heap.size,3,none⟩)
   rw[<- h1];exact h3
  | 1,hj=>
   obtain rfl:=Zbx hj
   have h3:V 1=.slice P1 p.agW.length it:=h;show V' 1=.slice P1 p.agW.length it
   rw[<- h1];exact h3
  | 2,hj=>
   obtain rfl:=Zbx hj
   have h3:V 2=.int .i64 a:=h;show V' 2=.int .i64 a
   rw[<- h1];exact h3
  | 3,hj=>
   obtain rfl:=Zbx hj
   have h3:V 3=.int .i64 b:=h;show V' 3=.int .i64 b
   rw[<- h1];exact h3
  | 4,hj=>
   obtain rfl:=Zbx hj
   have h3:V 4=.int .i64 (min a b):=h;show V' 4=.int .i64 (min a b)
   rw[<- h1];exact h3
  | 5,hj=>
   obtain rfl:=Zbx hj
   have h3:V 5=.int .i64 a:=h;show V' 5=.int .i64 a
   rw[<- h1];exact h3
  | 6,hj=>
   obtain rfl:=Zbx hj
   have h3:V 6=.int .i64 b:=h;show V' 6=.int .i64 b
   rw[<- h1];exact h3
  | 7,hj=>
   obtain rfl:=Zbx hj
   have h3:V 7=.int .i64 (max a b):=h;show V' 7=.int .i64 (max a b)
   rw[<- h1];exact h3
  | 8,hj=>
   obtain rfl:=Zbx hj
   have h3:bs W (V 8) [min a b,max a b]:=h;show bs W (V' 8) [min a b,max a b]
   rw[<- h1];exact h3
  | 9,hj=>
   obtain rfl:=Zbx hj
   have h3:V 9=.bool (edgeB p a b):=h;show V' 9=.bool (edgeB p a b)
   rw[<- h1];exact h3
  | 10,hj=>
   obtain rfl:=Zbx hj
   have h3:V 10=.bool (edgeB p a b):=h;show V' 10=.bool (edgeB p a b)
   rw[<- h1];exact h3
  | j+11,hj=>simp at hj
 ·intro i o hi ho V W hW hd
  match i,ho with
  | 0,ho=>
   cases ho;clear hd hi;refine⟨rfl,?_⟩;simp only[bh,zR11,zG,zA]
   refine du (u:=.pointer (some ⟨w.heap.size,3,none⟩)) (W':=W) (by go_simp) ⟨aa _,?_⟩;exact bX V 0 _
  | 1,ho=>
   cases ho;have e0:V 0=.pointer (some ⟨w.heap.size,3,none⟩):=hd 0 (by decide +kernel);clear hd hi;refine⟨rfl,?_⟩;simp only[bh,zR11,zG,zA]
   refine du (u:=.slice P1 p.agW.length it) (W':=W) (by go_simp) ⟨aa _,?_⟩;exact bX V 1 _
  | 2,ho=>
   cases ho;clear hd hi;refine⟨rfl,?_⟩;simp only[bh,zR11,zG,zA]
   refine du (u:=.int .i64 a) (W':=W) (by go_simp) ⟨aa _,?_⟩;exact bX V 2 _
  | 3,ho=>
   cases ho;clear hd hi;refine⟨rfl,?_⟩;simp only[bh,zR11,zG,zA]
   refine du (u:=.int .i64 b) (W':=W) (by go_simp) ⟨aa _,?_⟩;exact bX V 3 _
  | 4,ho=>
   cases ho;have e2:V 2=.int .i64 a:=hd 2 (by decide +kernel);have e3:V 3=.int .i64 b:=hd 3 (by decide +kernel);clear hd hi;refine⟨rfl,?_⟩;simp only[bh,zR11,zG,zA]
   unfold qq
   go_simp
   (with_reducible refine(iV a b W).mono ?_)
   rintro e W1 ⟨rfl,rfl⟩;refine⟨_,rfl,aa _,?_⟩;exact bX V 4 _
  | 5,ho=>
   cases ho;clear hd hi;refine⟨rfl,?_⟩;simp only[bh,zR11,zG,zA]
   refine du (u:=.int .i64 a) (W':=W) (by go_simp) ⟨aa _,?_⟩;exact bX V 5 _
  | 6,ho=>
   cases ho;clear hd hi;refine⟨rfl,?_⟩;simp only[bh,zR11,zG,zA]
   refine du (u:=.int .i64 b) (W':=W) (by go_simp) ⟨aa _,?_⟩;exact bX V 6 _
  | 7,ho=>
   cases ho;have e5:V 5=.int .i64 a:=hd 5 (by decide +kernel);have e6:V 6=.int .i64 b:=hd 6 (by decide +kernel);clear hd hi;refine⟨rfl,?_⟩;simp only[bh,zR11,zG,zA]
   unfold qq
   go_simp
   (with_reducible refine(Ac a b W).mono ?_)
   rintro e W1 ⟨rfl,rfl⟩;refine⟨_,rfl,aa _,?_⟩;exact bX V 7 _
  | 8,ho=>
   cases ho;have e4:V 4=.int .i64 (min a b):=hd 4 (by decide +kernel);have e7:V 7=.int .i64 (max a b):=hd 7 (by decide +kernel);clear hd hi;refine⟨rfl,?_⟩;simp only[bh,zR11,zG,zA]
   refine du (u:=.slice (some ⟨W.heap.size,0,none⟩) 2 2) (W':=W.alloc (.cells #[.int .i64 (min a b),.int .i64 (max a b)] 3)) (by rw[e4,e7];go_simp) ⟨ad _ (aa _),?_⟩
   show bs _ (xF V 8 _ 8) _
   rw[bX];exact DC W _ _
  | 9,ho=>
   cases ho;have e1:V 1=.slice P1 p.agW.length it:=hd 1 (by decide +kernel);have e8:bs W (V 8) [min a b,max a b]:=hd 8 (by decide +kernel);clear hd hi;refine⟨rfl,?_⟩;simp only[bh,zR11,zG,zA]
   unfold qq;have E8:=zh e8;clear e8
   go_simp
   (with_reducible refine(Nw _ _ p.agW _ W (Ka.out W hW) E8.out).mono ?_)
   rintro e W1 ⟨rfl,hb⟩;refine⟨_,rfl,hb,?_⟩;exact bX V 9 _
  | 10,ho=>
   cases ho;have e9:V 9=.bool (edgeB p a b):=hd 9 (by decide +kernel);clear hd hi;refine⟨rfl,?_⟩;simp only[bh,zR11,zG,zA]
   refine du (u:=.bool (edgeB p a b)) (W':=W) (by rw[e9];go_simp) ⟨aa _,?_⟩
   exact bX V 10 _
  | i+11,ho=>omega
 intro V W hW hV;have e0:V 0=.pointer (some ⟨w.heap.size,3,none⟩):=hV 0 (by decide);have e1:V 1=.slice P1 p.agW.length it:=hV 1 (by decide);have e2:V 2=.int .i64 a:=hV 2 (by decide);have e3:V 3=.int .i64 b:=hV 3 (by decide);have e4:V 4=.int .i64 (min a b):=hV 4 (by decide);have e5:V 5=.int .i64 a:=hV 5 (by decide);have e6:V 6=.int .i64 b:=hV 6 (by decide);have e7:V 7=.int .i64 (max a b):=hV 7 (by decide);have e8:bs W (V 8) [min a b,max a b]:=hV 8 (by decide);have e9:V 9=.bool (edgeB p a b):=hV 9 (by decide);have e10:V 10=.bool (edgeB p a b):=hV 10 (by decide);clear hV;simp only[bh,zR11,zG]
 (try simp only[zA])
 simp only[List.drop_succ_cons,List.drop_zero];have HS:=zh hW;rw[e10];go_wp2;go_ret;exact⟨rfl,ab.after aY HS⟩
section
variable {α : Type} {p : α → Bool} {xs : List α}
theorem Q5 (h:xs.any p=false):xs.findIdx? p=none:=by
 rw[List.findIdx?_eq_none_iff];intro x hx;rw[List.any_eq_false]at h;simpa using h x hx
theorem NL {k:Nat} {x:α} (hx:xs[k]?=some x) (hp:p x=true) (h:(xs.take k).any p=false):xs.findIdx? p=some k:=by
 obtain⟨hk,rfl⟩:=Zbs.1 hx;rw[Zcf];refine⟨hk,hp,fun j hj=>?_⟩
 rw[List.any_eq_false]at h;exact h _ (List.mem_take_iff_getElem.2 ⟨j,zO,rfl⟩)
theorem NM {k:Nat} {x:α} (hx:xs[k]?=some x) (h:(xs.take k).any p=false) (hp:p x=false):(xs.take (k+1)).any p=false:=by
 rw[bJ hx,List.any_append,h];simp[hp]
end
def Zu (p:List Int->Bool) (xs:List (List Int)):Int:=match xs.findIdx? p with | some k=>(k:Int) | none => -1
theorem VO (p:List Int->Bool) (xs:List (List Int)):decide (0<=Zu p xs)=xs.any p:=by
 unfold Zu
 cases h:xs.findIdx? p with
 | none=>
  rw[List.findIdx?_eq_none_iff]at h;simp only[decide_eq_false_iff_not.2 (show ¬(0:Int) <= -1 by omega)]
  symm
  rw[List.any_eq_false]
  intro x hx;simp[h x hx]
 | some i=>
  rw[Zcf]at h;obtain⟨hi,hp,_⟩:=h;simp only[Int.natCast_nonneg,decide_true]
  symm
  rw[Zcg];exact⟨xs[i],Zbj hi,hp⟩
def XY (w0:World) (nQ:FuncId) (jX:Array Value) (p:List Int->Bool) (xs:List (List Int)):Prop:=
 ∀c∈xs,∀u w,ab w0 w->bs w u c->Calls Tryz.prog nQ (#[u]++jX) w fun e w'=>e=.returned (.bool (p c))/\Below w.heap.size w w'
theorem Ag (v:Value) (cs:List (List Int)) (nQ:FuncId) (jX:Array Value) (p:List Int->Bool) (w:World) (h:bS w v cs) (i9:∀args w,(callFunc nQ args).run Tryz.prog w=.ok (.enter nQ args) w) (hp:XY w nQ jX p cs):
  Calls Tryz.prog 136 #[v,.func (.func nQ) #[] jX] w fun e w'=>e=.returned (.int .i64 (Zu p cs))/\Below w.heap.size w w':=by
 have H:=zh h;obtain⟨A,c,rfl,fR,hm,-⟩:=h;unfold maxLen at hm;have Hp:=zh hp;have eg:=i9;clear hp
 go_enter Tryz.func136,Tryz.ntmps136
 go_wp2
 go_loopw [8] (fun i wr=>∃k:Nat,k<=cs.length/\i=.int .i64 k/\(cs.take k).any p=false/\ab w wr) (fun i _=>cs.length-(intOf i).toNat)
 case atStart=>exact⟨0,Zac _,rfl,rfl,aa _⟩
 case round=>
  obtain⟨k,hk,rfl,jQ,hb⟩:=hrel;obtain⟨qV,Hb⟩:=A_ jQ hb;clear jQ hb
  by_cases aA:k<cs.length
  ·obtain⟨x,b,off,A1,z,hx,rfl,dk,dP,dY,na⟩:=fw H aA;have d0:=bc Hb dk;have Hx:=zh hx;have kZ:=Hp x (Zaq hx) _ wr Hb (na.agU Hb.below);obtain⟨y,hy⟩:=J_ (p x)
   have Hy:=zh hy;rw[<- hy]at kZ;have gD:=zh kZ;clear hy kZ hx dk na;go_wp2_with fail;refine gD.mono ?_;rintro e w1 ⟨rfl,aP⟩;have jR:=zh (Hb.out.trans aP);clear aP;cases y
   ·go_wp2;go_roundw
    exact⟨k+1,zO,zM,NM Hx qV Hy.symm,jR⟩
    simp[intOf];omega
   ·have Hr:Hid (Zu p cs=k):=by show _=_;unfold Zu;rw[NL Hx.out Hy.out.symm qV.out]
    go_wp2;go_ret;exact⟨congrArg (fun i=>Ending.returned (.int .i64 i)) Hr.out.symm,jR.out⟩
  ·obtain rfl:k=cs.length:=zO
   have Hr:Hid (Zu p cs = -1):=by show _=_;unfold Zu;rw[Q5 (by have:=qV.out;rwa [Zbq]at this)]
   go_wp2;go_ret;exact⟨congrArg (fun i=>Ending.returned (.int .i64 i)) Hr.out.symm,Hb.out⟩
theorem j4 (v:Value) (xs:List (List Int)) (nQ:FuncId) (jX:Array Value) (p:List Int->Bool) (w:World) (h:bS w v xs) (i9:∀args w,(callFunc nQ args).run Tryz.prog w=.ok (.enter nQ args) w) (hp:XY w nQ jX p xs):
  Calls Tryz.prog 81 #[v,.func (.func nQ) #[] jX] w fun e w'=>e=.returned (.bool (xs.any p))/\Below w.heap.size w w':=by
 have hb:=Ag v xs nQ jX p w h i9 hp;obtain⟨hr,Hb⟩:=A_ (VO p xs) hb;clear hb h i9 hp
 go_enter Tryz.func81,Tryz.ntmps81
 go_wp2_with fail;refine Hb.mono ?_;rintro e w1 ⟨rfl,aP⟩;have jR:=zh aP;clear aP;go_wp2;go_ret;exact⟨bG hr,jR⟩
theorem Kd {row:List Int} {k:Nat} {x:Int} (hx:row[k]?=some x):il (row.take (k+1))=il (row.take k)++(if 0<=x then [x] else []):=by
 rw[bJ hx];unfold il;rw[List.filter_append];congr 1
 by_cases h:0<=x
 ·rw[if_pos h,List.filter_cons_of_pos (by simpa using h)];rfl
 ·rw[if_neg h,List.filter_cons_of_neg (by simpa using h)];rfl
theorem DD (row:List Int):(il row).length<=row.length:=List.length_filter_le _ _
theorem EP:∀args w,(callFunc 139 args).run Tryz.prog w=.ok (.enter 139 args) w:=enters_of Tryz.func139 zK rfl
theorem NN (u s:Value) (c l:List Int) (b:Nat) (w:World) (h:bs w u c) (hb:w.cell? ⟨b,0,none⟩=some s) (hs:bs w s l):
  Calls Tryz.prog 139 #[u,.pointer (some ⟨b,0,none⟩)] w fun e w'=>e=.returned (.bool (gQ c l))/\Below w.heap.size w w':=by
 obtain⟨H,HS⟩:=A_ h hs;obtain⟨A,z,rfl,-⟩:=h;obtain⟨A2,z2,rfl,-⟩:=hs
 go_enter Tryz.func139,Tryz.ntmps139
 go_wp2_with (go_at_call 140;refine(EG _ _ c l _ H HS).mono ?_;rintro e w1 ⟨rfl,aP⟩)
 go_ret;exact⟨rfl,aP⟩
theorem nW (pa pb vl:Value) (p:aq) (l:List (List Int)) (v:Nat) (row:List Int) (w:World) (hp:el w pa pb p) (h:bS w vl l) (hv:l[v]?=some row) (hl:row.length<=1000000):
  Calls Tryz.prog 86 #[.agg #[.int .i64 p.labels,.int .i64 p.degree,pa,pb],vl,.int .i64 v] w fun e w'=>e=.returned (.bool (fJ p row))/\Below w.heap.size w w':=by
 obtain⟨w0,P0,iG,P1,it,rfl,rfl,jj,jk,jl,jm,jn,jo,HP,cD,aY,fp,fE,fM,ku⟩:=UZ hp;clear hp
 have HL:=zh (h.agU aY.out);obtain⟨A,z,rfl,fR,hm,-⟩:=h;unfold maxLen at hm;have J9:=zh (show ∀X,ab w0 X->bS X (.slice P0 p.nodes.length iG) p.nodes from fun X hX=>(HP.out.agU hX).1)
 have xA:=ah hv;obtain⟨fN,b,off,A1,z1,hx,rfl,dk,dP,dY,na⟩:=fw HL xA
 obtain rfl:fN=row:=by rw[hv]at hx;exact(Zbx hx).symm
 have q1:=ae dk;have HX:=zh na;have hr9:fN.length<=9223372036854775807:=zO
 clear hx dk na hv
 go_enter Tryz.func86,Tryz.ntmps86
 go_upto_region 1 with(fail);rw[<- cD.out];have nt:fJ p fN=(!((fN.length:Int)==p.degree)||p.nodes.any fun c=>gQ c (dz (il fN))):=rfl
 by_cases ri:(fN.length:Int)=p.degree
 ·have aP:((fN.length:Int) != p.degree)=false:=by simpa using ri
  have Hn:Hid (fJ p fN=p.nodes.any fun c=>gQ c (dz (il fN))):=by show _=_;rw[nt,show((fN.length:Int)==p.degree)=true by simpa using ri];rfl
  clear ri nt;refine ap 8 (ab w0) zK zK zS (aj (aa _)) ?_;simp only[zT]
  iterate 8 (refine ch rfl ?_;simp only[zA])
  intro W hW;obtain⟨bk,hbk⟩:=J_ W.heap.size
  obtain⟨W1,sl⟩:=J_ (W.alloc (.cells #[.slice none 0 0] 28))
  have dw:QQ bk W [] W1:=by rw[hbk,sl];exact⟨⟨_,Boxed.new _ _ _,fA _ _⟩,am _ _,zS⟩
  have pL:ab w0 W1:=by rw[sl];exact ad _ hW
  have di:=zh dw;have hWb:ab w0 W:=hW;obtain⟨HWb,Hbk,VP⟩:=B_ hWb hbk sl;clear dw hW sl hbk hWb;go_upto_region 4 with(fail);rw[<- Hbk.out,<- VP.out];go_wp2
  go_loopw [23] (fun i wr=>∃k:Nat,k<=fN.length/\i=.int .i64 k/\QQ bk W (il (fN.take k)) wr/\ab w0 wr) (fun i _=>fN.length-(intOf i).toNat)
  case atStart=>exact⟨0,Zac _,rfl,by simpa[il]using di.out,pL⟩
  case round=>
   obtain⟨k,hk,rfl,wF,hb⟩:=hrel;obtain⟨Mk,Hb⟩:=A_ wF hb;clear pL wF
   by_cases aA:k<fN.length
   ·obtain⟨JU,l8,e,-,-,ja⟩:=HX.out;cases e;obtain⟨x,b1,CH,hx,rfl,ti⟩:=fv ja aA;have qx:=ae ti;obtain⟨Hx,ym⟩:=A_ hx (Kd hx);clear hx ti ja
    by_cases nG:0<=x
    ·obtain⟨⟨u,dK,aI⟩,NO,fD⟩:=Mk.out
     have ii:(il (fN.take k)).length<=1000000:=Zak (DD _) (by rw[Zby];omega)
     have hd:=dK.cell;obtain⟨HO,NP,HBw⟩:=B_ aI dK NO
     have qR:Hid ((il (fN.take k)).length+1<=17592186044416):=by show _<=_;omega
     have Aa:bk+1<=wr.heap.size:=fD;have d2:(wr.alloc (.cells #[.int .i64 x] 3)).cell? ⟨bk,0,none⟩=some u:=(dK.alloc _).cell;clear aI dK NO ii fD
     go_wp2_with (at_builtin;refine sa rfl _ _ rfl rfl (HO.agU (am _ _)) wr.heap.size x rfl (by simp[go_sem]) qR (by simp;omega) ?_;intro g cap w3 gZ xG ad2 U2;obtain⟨kb,kk1,kk2,kk3⟩:=Dy NP HO HBw Aa gZ xG;have hf3:=kb.frozen;have hd3:=kb.cell;have Hk3:=zh kk3;clear kk1 kk2 kk3 gZ xG ad2)
     have HF:Hid (ab w0 (w3.setCell ⟨bk,0,none⟩ (.slice (some ⟨g,0,none⟩) ((il (fN.take k)).length+1) cap))):=ab.trans HWb.out (Hbk.out ▸ Hk3.out.2.1);clear hf3 hd3 kb U2 d2 hd hb;go_roundw
     exact⟨k+1,zO,zM,by rw[ym.out,if_pos nG];exact Hk3,HF⟩
     simp[intOf];omega
    ·go_wp2;go_roundw
     exact⟨k+1,zO,zM,by rw[ym.out,if_neg nG,List.append_nil];exact Mk,hb⟩
     simp[intOf];omega
   ·obtain rfl:k=fN.length:=zO
    rw[Zbq]at Mk;obtain⟨⟨u,dK,aI⟩,NO,fD⟩:=Mk.out;have hd:=dK.cell;obtain⟨HO,NP,HBw⟩:=B_ aI dK NO;have oV:(il fN).length<=17592186044416:=Zak (DD _) zO;obtain⟨A9,z9,rfl,-⟩:=id aI.ints;clear aI dK NO hb;go_wp2_with fail;refine(zl _ (il fN) _ _ HO oV).mono ?_;rintro e w4 ⟨rfl,jA,U3⟩
    have nt:some bk≠(Value.slice A9 (il fN).length z9).ownBlock:=fun e=>zX ((Zad HO.out bk e.symm).1)
    have pu:=NP.kept U3 nt;have Zv:=pu.cell;have HO4:Hid (bs w4 (.slice A9 (il fN).length z9) (dz (il fN))):=Own.ints jA
    have VQ:Hid (ab w0 w4):=ab.trans HWb.out (Hbk.out ▸ HBw.out.grown U3 (zX HBw.out.size) (fun k e=>zX ((Zad HO.out k e).1)))
    have j5:=zh pu;clear jA U3 pu nt hd;have oh:=VQ.out;go_wp2_with fail;obtain⟨r,hr⟩:=K_ (fJ p fN)
    have Hr:=zh hr;clear hr oh;refine(j4 _ p.nodes 139 #[.pointer (some ⟨bk,0,none⟩)] (fun c=>gQ c (dz (il fN))) _ (J9 _ VQ) EP (fun c hc u X hX hu=>NN u _ c _ bk X hu (bc hX j5.cell) (HO4.agU hX.below))).mono ?_
    rw[<- Hn.out,Hr.out];rintro e w5 ⟨rfl,k8⟩;have Ml:=zh (VQ.out.trans k8);clear k8;go_wp2;go_ret;exact⟨bG Hr.symm,ab.after aY Ml⟩
 ·have aP:((fN.length:Int) != p.degree)=true:=by simpa using ri
  have Hn:Hid (fJ p fN=true):=by show _=_;rw[nt,show((fN.length:Int)==p.degree)=false by simpa using ri];rfl
  clear ri nt;refine ap 8 (ab w0) zK zK zS (aj (aa _)) ?_;simp only[zT]
  iterate 8 (refine ch rfl ?_;simp only[zA])
  intro W hW;have HW:=zh hW;clear hW;go_wp2;go_ret;exact⟨eT Hn,ab.after aY HW⟩
def qr (ep:List (List (Int×Int))) (l:List (List Int)):Prop:=l.length=ep.length/\∀(v:Nat) (es:List (Int×Int)) (row:List Int),ep[v]?=some es->l[v]?=some row->row.length=es.length
theorem pM {n:ao} (hn:ar n=true) {v i:Nat} {es:List (Int×Int)} {f:Int×Int} (aU:n.ends[v]?=some es) (hf:es[i]?=some f):
  ∃(k j:Nat) (NQ:List (Int×Int)),f=((k:Int),(j:Int))/\n.ends[k]?=some NQ/\j<NQ.length:=by
 have hv:=ah aU;have hi:=ah hf
 have hp:bg n.ends (v:Int) (i:Int)=true:=by
  unfold bg;rw[Zai,aB,aB];simp only[Zag];rw[ag aU];omega
 have he:iJ n.ends (v:Int) (i:Int)=f:=by
  unfold iJ;simp only[Zag];rw[ag aU];exact ag hf
 obtain⟨h1,-⟩:=wy hn hp;rw[he]at h1;unfold bg at h1;rw[Zai,aB,aB]at h1;obtain⟨NQ,h2⟩:=au n.ends f.1.toNat zO;rw[ag h2]at h1
 exact⟨f.1.toNat,f.2.toNat,NQ,by rw[Prod.ext_iff];exact⟨by simp;omega,by simp;omega⟩,h2,zO⟩
theorem wG {w:World} {A:Option Addr} {c:Nat} {ep:List (List (Int×Int))} (h:oD w (.slice A ep.length c) ep) {v i:Nat} {es:List (Int×Int)} {f:Int×Int} (hv:ep[v]?=some es) (hi:es[i]?=some f):
  ∃b off b2 wv z,A=some ⟨b,off,none⟩/\w.cell? ⟨b,off+v,none⟩=some (.slice (some ⟨b2,wv,none⟩) es.length z)/\w.cell? ⟨b2,wv+i*2,none⟩=some (.int .i64 f.1)/\w.cell? ⟨b2,wv+i*2+1,none⟩=some (.int .i64 f.2):=by
 obtain⟨A',c',e,-,-,hA⟩:=h;cases e;obtain⟨b,off,u,wb,h1,⟨A1,z,rfl,-,-,ja⟩⟩:=hA v es hv;obtain⟨b2,wv,rfl,h2,h3⟩:=ja i f hi;exact⟨b,off,b2,wv,z,wb,h1,h2,h3⟩
theorem kB {w:World} {A:Option Addr} {c:Nat} {l:List (List Int)} (h:bS w (.slice A l.length c) l) {v i:Nat} {row:List Int} {x:Int} (hv:l[v]?=some row) (hi:row[i]?=some x):
  ∃b off b2 wv z,A=some ⟨b,off,none⟩/\w.cell? ⟨b,off+v,none⟩=some (.slice (some ⟨b2,wv,none⟩) row.length z)/\w.cell? ⟨b2,wv+i,none⟩=some (.int .i64 x):=by
 obtain⟨A',c',e,-,-,hA⟩:=h;cases e;obtain⟨b,off,u,wb,h1,⟨A1,z,rfl,-,-,ja⟩⟩:=hA v row hv;obtain⟨b2,wv,rfl,h2⟩:=ja i x hi;exact⟨b,off,b2,wv,z,wb,h1,h2⟩
theorem nX (pa pb ve vi vn vl:Value) (p:aq) (n:ao) (l:List (List Int)) (v i:Nat) (row:List Int) (w:World) (hp:el w pa pb p) (h:aR w ve vi vn n) (hl:bS w vl l) (hn:ar n=true) (iR:qr n.ends l) (hst:eR p.agW) (gM:p.agW.length<=1048576) (hv:l[v]?=some row) (hi:i<row.length):
  Calls Tryz.prog 85 #[.agg #[.int .i64 p.labels,.int .i64 p.degree,pa,pb],.agg #[ve,vi,vn],vl,.int .i64 v,.int .i64 i] w fun e w'=>e=.returned (.bool (ji p n.ends l ((v:Int),(i:Int))))/\Below w.heap.size w w':=by
 obtain⟨w0,A,c,A2,c2,A3,c3,P0,iG,P1,it,rfl,rfl,rfl,fR,hm,gC,jz,HA,H,rfl,rfl,jj,jk,jl,jm,jn,jo,HP,cD,aY,fp,fE,fM,ku,nY,oW,oX⟩:=Ah hp h;clear hp h
 have HL:=zh (hl.agU aY.out);obtain⟨AL,cL,rfl,-⟩:=hl;have gO:=zh (Ai HP.out);have xA:=ah hv
 obtain⟨es,aU⟩:=au n.ends v (by rw[<- iR.1];exact xA)
 have hre:=iR.2 v es row aU hv;obtain⟨f,hf⟩:=au es i zO;obtain⟨k,j,NQ,rfl,qE,hj⟩:=pM hn aU hf
 have oV:k<l.length:=by rw[iR.1];exact ah qE
 obtain⟨yo,iY⟩:=au l k oV;have ad3:=iR.2 k NQ yo qE iY;have CE:j<yo.length:=zO
 obtain⟨a,ha⟩:=au row i hi;obtain⟨b,hb⟩:=au yo j CE;have hvn:v<n.ends.length:=ah aU;have hie:i<es.length:=zO
 have hR:Hid (ji p n.ends l ((v:Int),(i:Int))=(decide (a<0)||(decide (b<0)||edgeB p a b))):=by
  show _=_
  have e1:(n.ends.getD v []).getD i (0,0)=((k:Int),(j:Int)):=by rw[ag aU,ag hf]
  have e2:dt l ((v:Int),(i:Int))=a:=by unfold dt;simp only[Zag];rw[ag hv,ag ha]
  have e3:dt l ((k:Int),(j:Int))=b:=by unfold dt;simp only[Zag];rw[ag iY,ag hb]
  unfold ji;simp only[Zag,e1,e2,e3]
 obtain⟨b1,o1,b2,o2,z1,rfl,c1,c2,c3⟩:=wG H.es aU hf;obtain⟨b3,o3,b4,o4,z2,rfl,c4,c5⟩:=kB HL hv ha;obtain⟨b5,o5,b6,o6,z3,e,c6,c7⟩:=kB HL iY hb;cases e;have q1:=ae c1;have q2:=ae c2;have q3:=ae c3;have q4:=ae c4;have q5:=ae c5;have q6:=ae c6;have q7:=ae c7;clear c1 c2 c3 c4 c5 c6 c7 ha hb hre ad3 aU qE iY hf hv hn iR hj;have nr:=zh hst;clear hst
 go_enter Tryz.func85,Tryz.ntmps85
 go_upto_region 1 with(fail);rw[<- cD.out];have aK:ab w0 w0:=aa _;go_upto_region 2 with(fail);obtain⟨bx,dK⟩:=J_ w0.heap.size
 obtain⟨W1,sl⟩:=J_ (w0.alloc (.cells #[.int .i64 k,.int .i64 j] 104))
 have dw:ab w0 W1:=by rw[sl];exact ad _ aK
 have g1:∀W,ab W1 W->W.cell? ⟨bx,0,none⟩=some (.int .i64 k):=ae (by rw[dK,sl];simp)
 have g2:∀W,ab W1 W->W.cell? ⟨bx,1,none⟩=some (.int .i64 j):=ae (by rw[dK,sl];simp)
 rw[<- sl,<- dK];have di:=zh dw;have t1:=al q1 dw;have t4:=al q4 dw;have t5:=al q5 dw;have t6:=al q6 dw;have t7:=al q7 dw;clear aK sl dK dw q1 q2 q3 q4 q5 q6 q7;refine ap 18 (ab W1) zK zK zS (aj (aa _)) ?_;simp only[zT]
 iterate 18 (refine ch rfl ?_;simp only[zA])
 intro W2 pt;have FP:=zh (di.out.after pt);clear pt t1 t4 t5 t6 t7 g1 g2;go_upto_region 3 with(fail);have pa0:=al fp FP;have pa1:=al fE FP;have pa2:=al fM FP;have pa3:=al ku FP;refine aM 13 (ab W2) (aa _) ?_;simp only[zT]
 iterate 3 (refine ch rfl ?_;simp only[zA])
 iterate 2 (refine iT rfl rfl ?_;simp only[zA])
 (first | refine db rfl rfl ?_ | (refine ch rfl ?_));simp only[zA]
 refine ch rfl ?_;simp only[zA]
 iterate 3 (refine iT rfl rfl ?_;simp only[zA])
 apply bn rfl rfl;(intro hb;intro W hW;unfold a_;go_simp;with_reducible exact zQ (rh _ _ p a b W (gO.out W (FP.out.after hW)) nr.out gM));simp only[zA]
 (first | refine db rfl rfl ?_ | (refine ch rfl ?_));simp only[zA]
 refine ch rfl ?_;simp only[zA]
 intro W3 pN;have GI:=zh (FP.out.after pN);clear pN;go_wp2;go_ret;exact⟨bG (by rw[hR.out,Bool.or_assoc]),ab.after aY GI⟩
theorem rj {q:Nat->Bool} {k:Nat} (h:(List.range k).all q=true) (hk:q k=true):(List.range (k+1)).all q=true:=by rw[Zaa,List.all_append,h];simp[hk]
theorem pO {q:Nat->Bool} {k n:Nat} (hn:k<n) (hk:q k=false):(List.range n).all q=false:=by
 rw[Bool.eq_false_iff];intro h;rw[Zbh]at h;rw[h k (Zab.2 hn)]at hk;cases hk
theorem NR (pa pb ve vi vn vl:Value) (p:aq) (n:ao) (l:List (List Int)) (w:World) (hp:el w pa pb p) (h:aR w ve vi vn n) (hl:bS w vl l) (hn:ar n=true) (iR:qr n.ends l) (hst:eR p.agW) (gM:p.agW.length<=1048576) (nd:∀(v:Nat) (row:List Int),l[v]?=some row->row.length<=1000000):
  Calls Tryz.prog 84 #[.agg #[.int .i64 p.labels,.int .i64 p.degree,pa,pb],.agg #[ve,vi,vn],vl] w fun e w'=>e=.returned (.bool (f7 p n.ends l))/\Below w.heap.size w w':=by
 obtain⟨w0,A,c,A2,c2,A3,c3,P0,iG,P1,it,rfl,rfl,rfl,fR,hm,gC,jz,HA,H,rfl,rfl,jj,jk,jl,jm,jn,jo,HP,cD,aY,fp,fE,fM,ku,nY,oW,oX⟩:=Ah hp h;clear hp h
 have HL:=zh (hl.agU aY.out);obtain⟨AL,cL,rfl,hlL,VR,-⟩:=hl;unfold maxLen at VR;obtain⟨gO,wH,nr,yD⟩:=C_ (Ai HP.out) iR hst nd;clear iR hst nd;have Hhb:Hid (f7 p n.ends l=(List.range l.length).all (oR p n.ends l)):=rfl
 go_enter Tryz.func84,Tryz.ntmps84
 go_upto_region 1 with(fail);rw[<- cD.out];have aK:ab w0 w0:=aa _;go_wp2
 go_loopw [11] (fun i wr=>∃k:Nat,k<=l.length/\i=.int .i64 k/\(List.range k).all (oR p n.ends l)=true/\ab w0 wr) (fun i _=>l.length-(intOf i).toNat)
 case atStart=>exact⟨0,Zac _,rfl,rfl,aK⟩
 case round=>
  obtain⟨k,hk,rfl,c_,hb⟩:=hrel;obtain⟨gS,Hb⟩:=A_ c_ hb;clear c_ aK
  by_cases aA:k<l.length
  ·obtain⟨row,b,off,A1,z1,hx,rfl,dk,dP,dY,na⟩:=fw (HL.agU hb.below) aA;obtain⟨dT,PR⟩:=A_ hx na;have Q6:=yD k row hx;have q1:=ae dk
   have Hhr:Hid (oR p n.ends l k=(fJ p row&&(List.range row.length).all fun i=>ji p n.ends l ((k:Int),(i:Int)))):=by show _=_;unfold oR;rw[ag hx]
   clear hx na dk;cases nt:fJ p row
   ·have NS:=zh nt
    have i_:Hid (f7 p n.ends l=false):=by show _=_;rw[Hhb.out];exact pO aA (by rw[Hhr.out,nt];rfl)
    clear nt;have hq:=q1 _ (aa _)
    go_wp2_with (go_at_call 86;refine(nW _ _ _ p l k row _ (gO _ Hb) (HL.agU Hb.below) dT Q6).mono ?_;rw[NS.out];rintro e w2 ⟨rfl,aS⟩)
    go_ret;exact⟨aJ i_,ab.after aY (Hb.trans aS)⟩
   ·have NS:=zh nt;have hq:=q1 _ (aa _);clear nt
    go_upto_region 6 with(go_at_call 86;refine(nW _ _ _ p l k row _ (gO _ Hb) (HL.agU Hb.below) dT Q6).mono ?_;rw[NS.out];rintro e w2 ⟨rfl,aS⟩)
    have fH:ab w0 w2:=Hb.trans aS;have q2:=al q1 aS;have EQ:=q2 _ (aa _);clear aS hq q1 hb;go_wp2
    go_loopw [24] (fun i wr=>∃j:Nat,j<=row.length/\i=.int .i64 j/\((List.range j).all fun i=>ji p n.ends l ((k:Int),(i:Int)))=true/\ab w0 wr) (fun i _=>row.length-(intOf i).toNat)
    case atStart=>exact⟨0,Zac _,rfl,rfl,fH⟩
    case round=>
     obtain⟨j,hj,rfl,hal,hb⟩:=hrel;obtain⟨Hal,Hb⟩:=A_ hal hb;clear hal fH EQ
     by_cases FR:j<row.length
     ·cases dV:ji p n.ends l ((k:Int),(j:Int))
      ·have dG:=zh dV
       have i_:Hid (f7 p n.ends l=false):=by show _=_;rw[Hhb.out];exact pO aA (by rw[Hhr.out,pO FR dV,Bool.and_false])
       clear dV
       go_wp2_with (go_at_call 85;refine(nX _ _ _ _ _ _ p n l k j row _ (gO _ Hb) (H.agU Hb.below) (HL.agU Hb.below) hn wH nr gM dT FR).mono ?_;rw[dG.out];rintro e w3 ⟨rfl,er⟩)
       go_ret;exact⟨aJ i_,ab.after aY (Hb.trans er)⟩
      ·have dG:=zh dV;clear dV
       go_wp2_with (go_at_call 85;refine(nX _ _ _ _ _ _ p n l k j row _ (gO _ Hb) (H.agU Hb.below) (HL.agU Hb.below) hn wH nr gM dT FR).mono ?_;rw[dG.out];rintro e w3 ⟨rfl,er⟩)
       go_roundw
       exact⟨j+1,zO,zM,rj Hal dG,Hb.trans er⟩
       simp[intOf];omega
     ·obtain rfl:j=row.length:=zO
      go_wp2;go_roundw
      exact⟨k+1,zO,zM,rj gS (by rw[Hhr.out,NS.out,Hal.out];rfl),hb⟩
      simp[intOf];omega
  ·obtain rfl:k=l.length:=zO
   go_wp2;go_ret;exact⟨eT (by rw[Hhb.out,gS.out]),ab.after aY hb⟩
def fc (x:Int) (N j:Nat):List Value:=List.replicate j (.int .i64 x)++List.replicate (N-j) (.int .i64 0)
theorem Aj {x:Int} {N j:Nat} (h:j<=N):(fc x N j).length=N:=by simp[fc];omega
theorem tm {x:Int} {N j m:Nat} (h:j+m<=N):splice (fc x N j) j (List.replicate m (.int .i64 x))=fc x N (j+m):=by
 unfold splice fc
 rw[List.take_append_of_le_length zS,List.take_replicate,Nat.min_self,Zbb,List.drop_append,List.drop_replicate,Zbb,List.drop_replicate,show j-(j+m)=0 by omega,show N-j-(j+m-j)=N-(j+m)by omega,List.replicate_zero,List.nil_append,<- List.append_assoc,List.replicate_append_replicate]
theorem Mm {w:World} {base g N:Nat} {x:Int} (h:w.heap[g]?=some (.cells (fc x N N).toArray 3 (0,0))) (hb:base<=g) (hN:N<=1000000):Own w base (.slice (some ⟨g,0,none⟩) N N) (List.replicate N x):=by
 unfold Own
 refine⟨zS,.inr ⟨g,N,_,zS,hb,h,zS,by unfold maxLen;omega,by simp[fc],?_⟩⟩
 simp[fc]
theorem GJ {w:World} {g N j:Nat} {x:Int} (h:w.heap[g]?=some (.cells (fc x N j).toArray 3 (0,0))) {i:Nat} (hi:i<j):w.cell? ⟨g,i,none⟩=some (.int .i64 x):=by
 have:(fc x N j)[i]?=some (.int .i64 x):=by
  unfold fc;rw[Zcb (by simpa using hi)];simp[hi]
 simp[World.cell?,h,this]
theorem VS {w:World} {b:Nat} {x:Int} (h:w.cell? ⟨b,0,none⟩=some (.int .i64 x)) {j:Nat} {v:Value} (hj:(List.replicate 1 (Value.int .i64 x))[j]?=some v):w.cell? ((⟨b,0,none⟩:Addr).add j)=some v:=by
 have h1:=ah hj;simp at h1
 subst h1;simp at hj
 subst hj;rw[Go.Addr.add_lit];exact h
theorem Q8 {w:World} {g N j m:Nat} {x:Int} (h:w.heap[g]?=some (.cells (fc x N j).toArray 3 (0,0))) (hm:m<=j) {i:Nat} {v:Value} (hi:(List.replicate m (Value.int .i64 x))[i]?=some v):w.cell? ((⟨g,0,none⟩:Addr).add i)=some v:=by
 have h1:=ah hi;rw[Zbb]at h1;rw[Zch,if_pos h1]at hi;rw[<- Zbx hi,Go.Addr.add_lit,Zba];exact GJ h zO
theorem nH (b c:Nat) (x:Int) (N:Nat) (w:World) (hN:1<=N) (Ke:N<=1000000) (hc:w.cell? ⟨b,0,none⟩=some (.int .i64 x)):
  Calls Tryz.prog 97 #[.slice (some ⟨b,0,none⟩) 1 c,.int .i64 N] w fun e w'=>∃u,e=.returned u/\Own w' w.heap.size u (List.replicate N x)/\Below w.heap.size w w':=by
 have e1:IntKind.u64.wrap (N:Int)=N:=IntWalk.u64_in _ zO;have hm:=Tryz.bits_Mul 1 N zO zO w;rw[show(1*N/18446744073709551616:Nat)=0 by omega,show(1*N%18446744073709551616:Nat)=N by omega]at hm
 have Hm:=zh hm;have e2:IntKind.i64.wrap (N:Int)=N:=bU _ zO zO;have m2:=q9 N Ke;have Hc:=zh hc;have PV:¬((N:Int)<0):=zO
 have abw:¬(9223372036854775807<(N:Int)):=zO
 clear hm hc
 go_enter Tryz.func97,Tryz.ntmps97
 go_wp2_with fail;refine Hm.mono ?_;rintro e w1 ⟨rfl,rfl⟩
 have HG2:Hid ((w1.alloc (.cells (Array.replicate N (Value.int .i64 0)) 3)).heap[w1.heap.size]?=some (.cells (fc x N 0).toArray 3 (0,0))):=by
  show(w1.heap.push _)[w1.heap.size]?=_
  rw[Zbc];simp[fc]
 go_wp2_with (refine wpList_copy_splice rfl _ _ 28 28 rfl 3 Tryz.underlying28 zK (some ⟨w1.heap.size,0,none⟩) (some ⟨b,0,none⟩) N N 1 c rfl rfl w1.heap.size 0 (fc x N 0) 3 HG2 (List.replicate 1 (.int .i64 x)) (by rw[Zbb];exact(Nat.min_eq_left hN).symm) (fun _=>⟨rfl,_,rfl,fun j v hj=>VS (bc (am _ _) Hc) hj⟩) (by rw[Aj (Zac _),Zbb];omega) (by simp[Value.oneCell']) w1.heap.size w1 (am _ _) (Zaj _) ?_;intro w3 xG er)
 obtain⟨g,hg⟩:=J_ w1.heap.size
 have Hg:=zh hg;rw[<- hg]at xG ⊢;clear hg
 have HG3:Hid (w3.heap[g]?=some (.cells (fc x N 1).toArray 3 (0,0))):=by
  have:=xG.out
  rw[show List.replicate 1 (Value.int .i64 x)=List.replicate 1 (.int .i64 x)from rfl,tm zO]at this;exact this
 have PX:=zh er;clear xG er;go_wp2
 go_loopw [8] (fun nv wr=>∃j:Nat,1<=j/\j<=N/\nv=.int .i64 j/\wr.heap[g]?=some (.cells (fc x N j).toArray 3 (0,0))/\Below w1.heap.size w1 wr) (fun nv _=>N-(intOf nv).toNat)
 case atStart=>exact⟨1,Zaj _,hN,rfl,HG3,PX⟩
 case round=>
  obtain⟨j,zZ,hj,rfl,yi,hb⟩:=hrel;obtain⟨HG,HB⟩:=A_ yi hb;clear yi hb
  by_cases aA:j<N
  ·obtain⟨m,hm⟩:=J_ (min j (N-j))
   have qQ:1<=m:=zO
   have gC:j+m<=N:=zO
   have hmj:m<=j:=zO
   have hNj:¬N=j:=zO
   have Hmm:=zh hm;clear hm;have m3:IntKind.i64.wrap ((j:Int)+m)=(j:Int)+m:=bU _ zO zO;have aK:ab w1 wr:=HB;go_upto_region 9 with(fail);refine fl (w0:=w1) 9 [false,false,false,false,false,false,false,true,true] zK zK (aK) ?_;simp only[ew,dM,zT]
   iterate 7 (apply ef rfl;(intro W hW;go_simp;with_reducible rfl);simp only[zA])
   obtain⟨W,dh⟩:=J_ (World.drew wr)
   rw[<- dh]
   have hW:ab w1 W:=by rw[dh];exact aj (aK)
   refine dA (fun Q' HQ=>?_)
   (refine wpList_copy_splice rfl _ _ 28 28 rfl 3 Tryz.underlying28 zK (some ⟨g,j,none⟩) (some ⟨g,0,none⟩) (N-j) (N-j) j N (by go_simp) (by go_simp) g j (fc x N j) 3 (by rw[dh];exact HG) (List.replicate m (.int .i64 x)) (by rw[Zbb];exact Hmm) (fun _=>⟨rfl,_,rfl,fun i v hi=>Q8 (by rw[dh];exact HG) hmj hi⟩) (by rw[Aj hj];simpa using gC) (by simp[Value.oneCell']) w1.heap.size w1 hW (by rw[Hg.out];exact Zaj _) ?_);intro w4 U3 pu;refine HQ _ _ pu ?_;replace hW:ab w1 w4:=pu;simp only[Zbb,goInt]
   (try simp only[zA])
   refine fj (v:=?_) rfl ?_ hW ?_;rotate_left;(go_simp;with_reducible rfl)
   simp only[zA];simp only[bP]
   have HG4:Hid (w4.heap[g]?=some (.cells (fc x N (j+m)).toArray 3 (0,0))):=by
    have:=U3.out
    rw[tm gC]at this;exact this
   have GK:=zh hW;clear U3 pu hW dh aK;go_wp2;go_roundw
   exact⟨j+m,zO,gC,zM,HG4,GK⟩
   simp[intOf];omega
  ·obtain rfl:j=N:=zO
   go_wp2;go_ret
   exact⟨_,rfl,Mm HG (by rw[Hg.out];exact Zaj _) Ke,HB⟩
theorem aZ.snoc {β:Type} {R:World->Nat->Value->β->List Nat->Prop} {e:TypeId} (L:eG R) {w w':World} {base g cap:Nat} {v u:Value} {xs:List β} {x:β} {S T:List Nat} (h:aZ e R w base v xs S) (hu:R w base u x T) (hd:∀j∈T,j∉S)
  (vs:List Value) (Ss:List (List Nat)) (h1:w.ownsRow base e 1 v xs.length vs) (h2:Ss.length=xs.length) (h3:∀(k:Nat) u x T,vs[k]?=some u->xs[k]?=some x->Ss[k]?=some T->R w base u x T) (h4:S=v.ownBlock.toList++Ss.flatten) (h5:S.Nodup)
  (q1:w'.ownsRow base e 1 (.slice (some ⟨g,0,none⟩) (xs.length+1) cap) (xs.length+1) (vs++[u])) (q2:w.grownBy w' v.ownBlock) (q3:v.ownBlock=some g\/g=w.heap.size):
  ∃S',aZ e R w' base (.slice (some ⟨g,0,none⟩) (xs.length+1) cap) (xs++[x]) S'/\(∀j∈S',j∈S\/j∈T\/j=w.heap.size):=by
 have hS:=(mw e L).range h;have hTr:=L.range hu;have xA:vs.length=xs.length:=by simpa using h1.1
 have uH:=h5;rw[h4,Zat]at uH
 have cH:∀j∈Ss.flatten,j∈S:=fun j hj=>by rw[h4];exact Zao _ hj
 have eB:=aV.agZ q2;have XW:∀j∈Ss.flatten,j∉v.ownBlock.toList:=fun j hj hv=>uH.2.2 j hv j hj rfl
 have hTv:∀j∈T,j∉v.ownBlock.toList:=fun j hj hv=>hd j hj (by rw[h4];exact Zax _ hv)
 have hg:g∉Ss.flatten:=fun hg=>by
  rcases q3 with q3 | q3
  ·exact XW g hg (by rw[q3];simp)
  ·have:=(hS g (cH g hg)).2;omega
 have CI:g∉T:=fun hg=>by
  rcases q3 with q3 | q3
  ·exact hTv g hg (by rw[q3];simp)
  ·have:=(hTr g hg).2;omega
 refine⟨[g]++(Ss++[T]).flatten,⟨vs++[u],Ss++[T],?_,by simp[h2],?_,by simp[Value.ownBlock],?_⟩,?_⟩
 ·rw[Zay];exact q1
 ·intro k u' x' T' zt FO ww;rcases Zbi k xs.length with hk | hk
  ·rw[Zcb zO]at zt FO ww;exact L.only (h3 k u' x' T' zt FO ww) eB (fun j hj=>XW j (Zap.2 ⟨T',Zaq ww,hj⟩))
  ·have lW:k=xs.length:=by
    have:=ah FO
    simp at this;omega
   subst lW;rw[Zca (Zaj _),Nat.sub_self]at FO;rw[<- xA,Zca (Zaj _),Nat.sub_self]at zt;rw[<- h2,Zca (Zaj _),Nat.sub_self]at ww;simp at zt FO ww
   subst zt FO ww;exact L.only hu eB hTv
 ·rw[List.flatten_append,Zat];refine⟨zS,?_,?_⟩
  ·rw[Zat];refine⟨uH.2.1,by simpa using L.nodup hu,?_⟩
   intro a ha b hb e;simp at hb
   subst e;exact hd a hb (cH a ha)
  ·intro a ha b hb e;simp at ha
   subst e ha;rcases Zar.1 hb with hb | hb
   ·exact hg hb
   ·simp at hb;exact CI hb
 ·intro j hj;rw[List.flatten_append]at hj;rcases Zar.1 hj with hj | hj
  ·simp at hj
   subst hj;rcases q3 with q3 | q3
   ·left;rw[h4,q3];simp
   ·exact .inr (.inr q3)
  ·rcases Zar.1 hj with hj | hj
   ·exact .inl (cH j hj)
   ·simp at hj;exact .inr (.inl hj)
theorem ER:(Tryz.prog.info? 28).map (fun i=>(i.zero,i.size,i.bytes))=some (some (.slice none 0 0),1,24):=zK
theorem mh {w:World} {ops:Array Oper} {rest:List Oper} {o:Oper} {a:Act} {Q:Exit->Act->World->Prop} (gT:o.guard=none) (s x:Operand)
  (ho:o.op=.call { callee:=.builtin .append,args:=#[s,x],argTypes:=#[24,24] }) {base:Nat} {v u:Value} {q_:List (List Int)} {S:List Nat} {xs:List Int} (hs:a.eval s=v) (h:bu w base v q_ S)
  (b:Nat) (hx:a.eval x=.slice (some ⟨b,0,none⟩) 1 1) (hc:w.cell? ⟨b,0,none⟩=some u) (hu:Own w base u xs) (hd:∀j,u.ownBlock=some j->j∉S) (hl:q_.length+1<=4000000) (Aa:base<=w.heap.size)
  (k:∀g cap w' S',bu w' base (.slice (some ⟨g,0,none⟩) (q_.length+1) cap) (q_++[xs]) S'->Below base w w'->wpList Tryz.prog ops Q rest (a.put o.dst (.slice (some ⟨g,0,none⟩) (q_.length+1) cap)) w'):wpList Tryz.prog ops Q (o::rest) a w:=by
 obtain⟨i0,hi,e_,dP,dY⟩:=info_parts ER;have hvr:=aL.range h;have QV:=h;obtain⟨vs,Ss,r1,r2,r3,r4,r5⟩:=h;obtain⟨A,m,c,rfl⟩:=fT.one (S:=u.ownBlock.toList) ⟨hu,rfl⟩
 refine wpList_append_lies w gT s x 24 ho base 28 i0 _ 1 24 Tryz.underlying24 hi e_ dP dY rfl (by decide) v q_.length vs hs r1 ⟨b,0,none⟩ 1 1 [.slice A m c] hx rfl
  (by intro j u hj;match j,hj with | 0,hj=>(simp at hj;subst hj;simpa[Addr.add]using hc) | j+1,hj=>simp at hj) (by simp[Value.oneCell']) zO (by unfold maxLen;omega) zO Aa w.heap.size rfl ?_
 intro g cap w' q1 q2 q3 q4;obtain⟨S',o1,-⟩:=aZ.snoc fT QV (T:=(Value.slice A m c).ownBlock.toList) ⟨hu,rfl⟩ (fun j hj=>hd j (by simpa using hj)) vs Ss r1 r2 r3 r4 r5 q1 q2 q3
 exact k g cap w' S' o1 (Below.grown (Zaf base w |>.mono (Zaj _)) q2 Aa (fun q hq=>(hvr q (by rw[r4,hq];simp)).1))
theorem xH (b c:Nat) (x:Int) (w:World) (hc:w.cell? ⟨b,0,none⟩=some (.int .i64 x)):
  Calls Tryz.prog 97 #[.slice (some ⟨b,0,none⟩) 1 c,.int .i64 0] w fun e w'=>∃u,e=.returned u/\Own w' w.heap.size u []/\Below w.heap.size w w':=by
 have e1:IntKind.u64.wrap (0:Int)=0:=IntWalk.u64_in _ zO;have hm:=Tryz.bits_Mul 1 0 zO zO w;rw[show(1*0/18446744073709551616:Nat)=0 by omega,show(1*0%18446744073709551616:Nat)=0 by omega]at hm
 have Hm:=zh hm;have e2:IntKind.i64.wrap (0:Int)=0:=bU _ zO zO;have m2:∀W:World,(Instr.makeSlice 28 (.int .i64 0) (.int .i64 0)).run Tryz.prog W=.ok (.slice (some ⟨W.heap.size,0,none⟩) 0 0) (W.alloc (.cells #[] 3)):=q9 0 zO;have Hc:=zh hc;clear hm hc
 go_enter Tryz.func97,Tryz.ntmps97
 go_wp2_with fail;refine Hm.mono ?_;rintro e w1 ⟨rfl,rfl⟩
 have HG2:Hid ((w1.alloc (.cells #[] 3)).heap[w1.heap.size]?=some (.cells (fc x 0 0).toArray 3 (0,0))):=by
  show(w1.heap.push _)[w1.heap.size]?=_
  rw[Zbc];simp[fc]
 go_wp2_with (refine wpList_copy_splice rfl _ _ 28 28 rfl 3 Tryz.underlying28 zK (some ⟨w1.heap.size,0,none⟩) (some ⟨b,0,none⟩) 0 0 1 c rfl rfl w1.heap.size 0 (fc x 0 0) 3 HG2 [] rfl (fun h=>by simp at h) zS zS w1.heap.size w1 (am _ _) (Zaj _) ?_;intro w3 xG er)
 have HG3:Hid (w3.heap[w1.heap.size]?=some (.cells (fc x 0 0).toArray 3 (0,0))):=by
  show _=_
  have:=xG.out
  simpa[splice,fc]using this
 have PX:=zh er;clear xG er;go_wp2
 go_loopw [8] (fun nv wr=>nv=.int .i64 0/\wr=w3) (fun _ _=>0)
 case atStart=>exact⟨rfl,rfl⟩
 case round=>
  obtain⟨rfl,rfl⟩:=hrel;go_wp2;go_ret;exact⟨_,rfl,Mm (N:=0) HG3 (Zaj _) zO,PX⟩
theorem Ak (b c:Nat) (x:Int) (N:Nat) (w:World) (Ke:N<=1000000) (hc:w.cell? ⟨b,0,none⟩=some (.int .i64 x)):
  Calls Tryz.prog 97 #[.slice (some ⟨b,0,none⟩) 1 c,.int .i64 N] w fun e w'=>∃u,e=.returned u/\Own w' w.heap.size u (List.replicate N x)/\Below w.heap.size w w':=by
 rcases Zbk N with h | h
 ·subst h;exact xH b c x w hc
 ·exact nH b c x N w h Ke hc
theorem CQ (v:Value) (ep:List (List Int)) (w:World) (h:bS w v ep) (qs:ep.length<=1048576) (hr:∀(v:Nat) (row:List Int),ep[v]?=some row->row.length<=17592186044416):
  Calls Tryz.prog 49 #[v] w fun e w'=>∃u S,e=.returned u/\bu w' w.heap.size u ep S/\Below w.heap.size w w':=by
 have H:=zh h;obtain⟨A,c,rfl,fR,hm,-⟩:=h;unfold maxLen at hm;have Hr:=zh hr;clear hr
 go_enter Tryz.func49,Tryz.ntmps49
 go_wp2_with (at_make;refine uP _ rfl _ _ rfl ep.length rfl rfl qs ?_;intro w1 gL aP)
 go_loopw [10] (fun i wr=>∃(k:Nat) (S:List Nat),k<=ep.length/\i=.int .i64 k/\bu wr w.heap.size (.slice (some ⟨w.heap.size,0,none⟩) ep.length ep.length) (ep.take k++List.replicate (ep.length-k) []) S/\Below w.heap.size w wr) (fun i _=>ep.length-(intOf i).toNat)
 case atStart=>exact⟨0,_,Zac _,rfl,by simpa using gL,aP⟩
 case round=>
  obtain⟨k,S,hk,rfl,ho,hb⟩:=hrel;clear gL aP
  by_cases aA:k<ep.length
  ·obtain⟨x,b,off,A1,z1,hx,rfl,dk,dP,dY,na⟩:=fw H aA;have k1:=bc hb dk;obtain⟨Hu,Ho,Hb,Hx⟩:=C_ (na.agU hb) ho hb hx;clear hx dk ho hb na;go_wp2_with fail;refine(Ds _ x _ Hu (Hr k x Hx)).mono ?_;rintro e w2 ⟨v2,rfl,pP,aS⟩;have Zw:mx w2 wr.heap.size v2 x v2.ownBlock.toList:=⟨pP,rfl⟩;have dD:=aL.agU Ho aS
   obtain⟨y,hy⟩:=au (ep.take k++List.replicate (ep.length-k) []) k (by simp;omega)
   obtain⟨_,_,y1,f1,_⟩:=aZ.at_ dD hy;have hS:=aL.range Ho
   obtain⟨S3,gZ,_⟩:=aZ.store fT dD k (fT.mono Zw Hb.size) (fun j hj Q_=>by have h1:=(fT.range Zw j hj).1;have:=(hS _ Q_).2;omega)
   rw[zi [] ep k x Hx.out]at gZ
   obtain⟨uU,tF⟩:=A_ gZ ((Hb.out.trans (aS.mono Hb.out.size)).setCell (p:=⟨w.heap.size,k,none⟩) (Zaj _) v2);obtain⟨B2,d2,rfl,_⟩:=id pP.ints;clear dD hy gZ aS pP hS Zw;go_wp2;go_roundw
   exact⟨k+1,S3,zO,zS,uU,tF⟩
   simp[intOf];omega
  ·have e1:ep.take k++List.replicate (ep.length-k) ([]:List Int)=ep:=by rw[Zbz zO,show ep.length-k=0 by omega,List.replicate_zero,List.append_nil]
   rw[e1]at ho;obtain⟨Ho,Hb⟩:=A_ ho hb;clear ho hb e1;go_wp2;go_ret;exact⟨_,S,rfl,Ho,Hb⟩
theorem iW (w:World) (base:Nat):bu w base (.slice none 0 0) [] []:=⟨[],[],World.ownsRow_nil w base _ _,rfl,fun k u x T h=>by simp at h,by simp[Value.ownBlock],zS⟩
theorem Al (v:Value) (ep:List (List Int)) (w:World) (h:bS w v ep) (qs:ep.length<=1048576) (hr:∀(v:Nat) (row:List Int),ep[v]?=some row->row.length<=17592186044416):
  Calls Tryz.prog 54 #[v] w fun e w'=>∃u S,e=.returned u/\bu w' w.heap.size u ep S/\Below w.heap.size w w':=by
 have H:=zh h;obtain⟨A,c,rfl,fR,hm,-⟩:=h;unfold maxLen at hm;have Hr:=zh hr;clear hr
 go_enter Tryz.func54,Tryz.ntmps54
 go_wp2
 go_loopw [3,8] (fun u i wr=>∃(k:Nat) (S:List Nat),k<=ep.length/\i=.int .i64 k/\bu wr w.heap.size u (ep.take k) S/\Below w.heap.size w wr) (fun _ i _=>ep.length-(intOf i).toNat)
 case atStart=>exact⟨0,_,Zac _,rfl,by simpa using iW w w.heap.size,Zaf _ _⟩
 case round=>
  obtain⟨k,S,hk,rfl,ho,hb⟩:=hrel;obtain⟨Ho,Hb⟩:=A_ ho hb
  by_cases aA:k<ep.length
  ·obtain⟨x,b,off,A1,z1,hx,rfl,dk,dP,dY,na⟩:=fw H aA;have k1:=bc hb dk;obtain⟨Hu,Hx⟩:=A_ (na.agU hb) hx;clear hx dk ho hb na;go_wp2_with fail;refine(iU _ x _ Hu (Hr k x Hx)).mono ?_;rintro e w2 ⟨v2,rfl,pP,aS⟩;have hS:=aL.range Ho
   have Hd:Hid (∀j,v2.ownBlock=some j->j∉S):=fun j hj Q_=>by have h1:=(Zad pP j hj).1;have:=(hS _ Q_).2;omega
   obtain⟨Cm,mg,NT⟩:=B_ (Hb.out.trans (aS.mono Hb.out.size)) (aL.agU (aL.agU Ho.out aS) (am w2 (.cells #[v2] 28))) ((pP.mono Hb.out.size).agU (am w2 (.cells #[v2] 28)))
   have qR:Hid ((ep.take k).length+1<=4000000):=by show _<=_;rw[Zby];omega
   obtain⟨B2,d2,rfl,_⟩:=id pP.ints;clear pP aS hS k1
   go_wp2_with (at_builtin;refine mh rfl _ _ rfl rfl mg w2.heap.size rfl (by simp[go_sem]) NT Hd qR (Zak Cm.size zS) ?_;intro g cc w3 S3 gZ er)
   rw[<- bJ Hx.out,Zby,Nat.min_eq_left (Zcd aA)]at gZ;go_roundw
   exact⟨k+1,S3,zO,zM,gZ,Cm.trans ((am w2 _).mono Cm.size |>.trans er)⟩
   simp[intOf];omega
  ·obtain rfl:k=ep.length:=zO
   have HO:Hid (bu wr w.heap.size u3 ep S):=by have:=Ho.out;rwa [Zbq]at this
   clear ho hb;go_wp2;go_ret;exact⟨_,S,rfl,HO,Hb⟩
def aX (n:ao):List (List Int):=n.ends.map fun es=>List.replicate es.length (-1)
theorem sm (n:ao):(aX n).length=n.ends.length:=by simp[aX]
theorem sq {n:ao} {k:Nat} {es:List (Int×Int)} (h:n.ends[k]?=some es):(aX n)[k]?=some (List.replicate es.length (-1)):=by simp[aX,h]
theorem nZ (ve vi vn:Value) (n:ao) (w:World) (h:aR w ve vi vn n) (qs:n.ends.length<=1048576) (hr:∀(v:Nat) (es:List (Int×Int)),n.ends[v]?=some es->es.length<=1000000):
  Calls Tryz.prog 47 #[.agg #[ve,vi,vn]] w fun e w'=>∃u S,e=.returned u/\bu w' w.heap.size u (aX n) S/\Below w.heap.size w w':=by
 obtain⟨w0,A,c,A2,c2,A3,c3,rfl,rfl,rfl,fR,hm,gC,jz,HA,H,cD,aY,fp,fE,fM⟩:=zB h;clear h
 have Hr:=zh hr;clear hr;obtain⟨F,hF⟩:=J_ (aX n)
 have Zx:F.length=n.ends.length:=by rw[hF];exact sm n
 rw[<- hF];have HF:=zh hF;clear hF
 go_enter Tryz.func47,Tryz.ntmps47
 go_upto_region 1 with(fail);rw[<- cD.out];have aK:ab w0 w0:=aa _
 go_upto_region 3 with(at_make;refine uP _ rfl _ _ rfl n.ends.length rfl rfl qs ?_;intro w1 gL aP;have dw:ab w0 w1:=aP)
 obtain⟨g,hg⟩:=J_ w0.heap.size
 rw[<- hg]at gL ⊢;have dw:ab w0 w1:=aP;have Hg:=zh hg;clear hg aP;go_wp2
 go_loopw [13] (fun i wr=>∃(k:Nat) (S:List Nat),k<=n.ends.length/\i=.int .i64 k/\bu wr w0.heap.size (.slice (some ⟨g,0,none⟩) n.ends.length n.ends.length) (F.take k++List.replicate (F.length-k) []) S/\ab w0 wr) (fun i _=>n.ends.length-(intOf i).toNat)
 case atStart=>exact⟨0,_,Zac _,rfl,by rw[Zx];have:=gL;simpa[Hg.out]using this,dw⟩
 case round=>
  obtain⟨k,S,hk,rfl,ho,hb⟩:=hrel;obtain⟨Ho,Hb⟩:=A_ ho hb;clear gL dw aK ho hb
  by_cases aA:k<n.ends.length
  ·obtain⟨es,aU⟩:=au n.ends k aA;obtain⟨b,off,c',u,hA,NU,dk,aG⟩:=iK H.es aU;cases hA;obtain⟨A1,z1,rfl,dP,dY,-⟩:=aG;have gM:=Hr k es aU;have k1:=bc Hb.below dk
   have Hx:Hid (F[k]?=some (List.replicate es.length (-1))):=by show _=_;rw[HF.out];exact sq aU
   clear dk aU;go_wp2_with fail;refine(Ak wr.heap.size 1 (-1) es.length _ gM zS).mono ?_;rintro e w2 ⟨v2,rfl,pP,aS⟩;have Zw:mx w2 (wr.alloc (.cells #[.int .i64 (-1)] 3)).heap.size v2 (List.replicate es.length (-1)) v2.ownBlock.toList:=⟨pP,rfl⟩;have pQ:wr.heap.size<=(wr.alloc (.cells #[.int .i64 (-1)] 3)).heap.size:=zS
   have bj:w0.heap.size<=wr.heap.size:=Hb.below.size;have dD:=aL.agU (aL.agU Ho (am wr (.cells #[.int .i64 (-1)] 3))) aS
   obtain⟨y,hy⟩:=au (F.take k++List.replicate (F.length-k) []) k (by simp;omega)
   obtain⟨_,_,y1,f1,_⟩:=aZ.at_ dD hy;have hS:=aL.range Ho
   obtain⟨S3,gZ,_⟩:=aZ.store fT dD k (fT.mono Zw zO) (fun j hj Q_=>by have h1:=(fT.range Zw j hj).1;have:=(hS _ Q_).2;omega)
   rw[zi [] F k _ Hx.out]at gZ
   have uU:=zh gZ
   have tF:Hid (ab w0 (w2.setCell ⟨g,k,none⟩ v2)):=Below.setCell (ab.below ((ad _ Hb.out).trans aS)) (by show w0.heap.size<=g;rw[Hg.out];exact Zaj _) _
   obtain⟨B2,d2,Mn,_⟩:=id pP.ints;rw[Zbb]at Mn;subst Mn;clear dD hy gZ aS pP hS Zw pQ bj;go_wp2;go_roundw
   exact⟨k+1,S3,zO,zM,uU,tF⟩
   simp[intOf];omega
  ·have e1:F.take k++List.replicate (F.length-k) ([]:List Int)=F:=by rw[Zbz zO,show F.length-k=0 by omega,List.replicate_zero,List.append_nil]
   have HO:Hid (bu wr w0.heap.size (.slice (some ⟨g,0,none⟩) n.ends.length n.ends.length) F S):=by have:=Ho.out;rwa [e1]at this
   clear e1;go_wp2;go_ret;exact⟨_,S,rfl,aL.mono HO aY.size,ab.after aY Hb⟩
theorem rm (ve vi vn:Value) (n:ao) (w:World) (h:aR w ve vi vn n) (qs:n.ends.length<=1048576) (hr:∀(v:Nat) (es:List (Int×Int)),n.ends[v]?=some es->es.length<=1048576):
  Calls Tryz.prog 53 #[.agg #[ve,vi,vn]] w fun e w'=>∃u S,e=.returned u/\bu w' w.heap.size u (aX n) S/\Below w.heap.size w w':=by
 obtain⟨w0,A,c,A2,c2,A3,c3,rfl,rfl,rfl,fR,hm,gC,jz,HA,H,cD,aY,fp,fE,fM⟩:=zB h;clear h
 have Hr:=zh hr;clear hr;obtain⟨F,hF⟩:=J_ (aX n)
 have Zx:F.length=n.ends.length:=by rw[hF];exact sm n
 rw[<- hF];have HF:=zh hF;clear hF
 go_enter Tryz.func53,Tryz.ntmps53
 go_upto_region 1 with(fail);rw[<- cD.out];have aK:ab w0 w0:=aa _;go_wp2
 go_loopw [3,11] (fun u i wr=>∃(k:Nat) (S:List Nat),k<=n.ends.length/\i=.int .i64 k/\bu wr w0.heap.size u (F.take k) S/\ab w0 wr) (fun _ i _=>n.ends.length-(intOf i).toNat)
 case atStart=>exact⟨0,_,Zac _,rfl,by simpa using iW w0 w0.heap.size,aK⟩
 case round=>
  obtain⟨k,S,hk,rfl,ho,hb⟩:=hrel;obtain⟨Ho,Hb⟩:=A_ ho hb;clear aK ho hb
  by_cases aA:k<n.ends.length
  ·obtain⟨es,aU⟩:=au n.ends k aA;obtain⟨b,off,c',u,hA,NU,dk,aG⟩:=iK H.es aU;cases hA;obtain⟨A1,z1,rfl,dP,dY,-⟩:=aG;have gM:=Hr k es aU;have k1:=bc Hb.below dk
   have Hx:Hid (F[k]?=some (List.replicate es.length (-1))):=by show _=_;rw[HF.out];exact sq aU
   clear dk aU;obtain⟨wo,rfl⟩:=J_ wr
   go_upto_region 6 with(at_make;refine lT _ rfl _ _ rfl _ _ es.length rfl rfl rfl rfl zO ?_;intro w1 gL aP VD)
   obtain⟨g,hg⟩:=J_ wo.heap.size
   rw[<- hg]at gL VD ⊢;obtain⟨Hg,Ck,jR⟩:=B_ hg gL aP;clear hg gL aP VD;go_wp2
   go_loopw [20] (fun i wq=>∃j:Nat,j<=es.length/\i=.int .i64 j/\Own wq wo.heap.size (.slice (some ⟨g,0,none⟩) es.length es.length) (List.replicate j (-1)++List.replicate (es.length-j) 0)/\ab wo wq) (fun i _=>es.length-(intOf i).toNat)
   case atStart=>exact⟨0,Zac _,rfl,by have:=Ck.out;simpa[Hg.out]using this,jR.out⟩
   case round=>
    obtain⟨j,hj,rfl,ho,hs⟩:=hrel;obtain⟨XZ,Hs⟩:=A_ ho hs;clear ho hs
    by_cases FR:j<es.length
    ·obtain⟨y,hy⟩:=au (List.replicate j (-1:Int)++List.replicate (es.length-j) 0) j (by simp;omega)
     have cz:=XZ.cell hy;have fz:=XZ.free j;clear hy;go_wp2;go_roundw
     case rel=>
      refine⟨j+1,zO,zM,?_,Below.setCell Hs.out (by show wo.heap.size<=g;rw[Hg.out];exact Zaj _) _⟩
      have:=XZ.set (k:=j) (-1)
      have e:(List.replicate j (-1:Int)++List.replicate (es.length-j) 0).set j (-1)=List.replicate (j+1) (-1)++List.replicate (es.length-(j+1)) 0:=by
       rw[List.set_append_right _ _ zS,Zbb,Nat.sub_self,show es.length-j=(es.length-(j+1))+1 by omega,List.replicate_succ,List.set_cons_zero,List.replicate_succ',List.append_assoc]
       rfl
      rwa [e]at this
     simp[intOf];omega
    ·obtain rfl:j=es.length:=zO
     have NT:Hid (Own wr wo.heap.size (.slice (some ⟨g,0,none⟩) es.length es.length) (List.replicate es.length (-1))):=by
      have:=XZ.out
      rwa [Nat.sub_self,List.replicate_zero,List.append_nil]at this
     have hS:=aL.range Ho
     have Hd:Hid (∀j,(Value.slice (some ⟨g,0,none⟩) es.length es.length).ownBlock=some j->j∉S):=fun j hj Q_=>by have h1:=(Zad NT j hj).1;have:=(hS _ Q_).2;omega
     have Cm:=zh (Hb.out.trans Hs.out);have mg:=zh (aL.agU (aL.agU Ho.out Hs.out.below) (am wr (.cells #[.slice (some ⟨g,0,none⟩) es.length es.length] 28)));have Hr3:=zh ((NT.out.mono Hb.out.below.size).agU (am wr (.cells #[.slice (some ⟨g,0,none⟩) es.length es.length] 28)))
     have qR:Hid ((F.take k).length+1<=4000000):=by show _<=_;rw[Zby];omega
     clear hS k1
     go_wp2_with (at_builtin;refine mh rfl _ _ rfl rfl mg wr.heap.size rfl (by simp[go_sem]) Hr3 Hd qR (Zak Cm.below.size zS) ?_;intro g9 cc w3 S3 gZ er)
     rw[<- bJ Hx.out,Zby,Nat.min_eq_left zO]at gZ;go_roundw
     exact⟨k+1,S3,zO,zM,gZ,Zbw (Zbw Cm ((am wr _).mono Cm.below.size)) er⟩
     simp[intOf];omega
  ·obtain rfl:k=n.ends.length:=zO
   have HO:Hid (bu wr w0.heap.size u3 F S):=by have:=Ho.out;rw[Zbz zO]at this;exact this
   go_wp2;go_ret;exact⟨_,S,rfl,aL.mono HO aY.size,ab.after aY Hb⟩
end Go.Proofs.YtnioemnkfojmkaaGreat
