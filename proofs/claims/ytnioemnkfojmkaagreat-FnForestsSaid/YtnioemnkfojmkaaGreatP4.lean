/- Parts of the proof: walks of functions and plain laws. -/
import Derived.Test.YtnioemnkfojmkaaGreatP3
set_option maxRecDepth 100000
set_option maxHeartbeats 16000000
namespace Go.Proofs.YtnioemnkfojmkaaGreat
open Go Go.RowKit
theorem fw {w:World} {A:Option Addr} {c:Nat} {q_:List (List Int)} (h:bS w (.slice A q_.length c) q_) {k:Nat} (hk:k<q_.length):∃xs b off A1 z,q_[k]?=some xs/\A=some ⟨b,off,none⟩/\w.cell? ⟨b,off+k,none⟩=some (.slice A1 xs.length z)/\xs.length<=z/\z<=9223372036854775807/\bs w (.slice A1 xs.length z) xs:=by
 obtain⟨A',c',e,_,_,hA⟩:=h;cases e;obtain⟨xs,hx⟩:=au q_ k hk;obtain⟨b,off,u,wb,h1,hr⟩:=hA k xs hx;have Jt:=hr;obtain⟨A1,z,rfl,h2,h3,ja⟩:=hr;unfold maxLen at h3;exact⟨xs,b,off,A1,z,hx,wb,h1,h2,zO,Jt⟩
theorem zV {l:List (List Int)} {size labels:Int} {k:Nat} (h:(List.range k).all (jY l size labels)=true) (hk:jY l size labels k=true):(List.range (k+1)).all (jY l size labels)=true:=by
 rw[fq,h,hk];rfl
theorem QM {l:List (List Int)} {size labels:Int} {k:Nat} {c:List Int} (h:(List.range k).all (jY l size labels)=true) (hk:0<k) (hc:l[k-1]?=some c):Gx size labels c=true:=by
 have:=Zbh.1 h (k-1) (Zab.2 zO)
 unfold jY at this;rw[Zai,ag hc]at this;exact this.1
theorem Zn {size labels:Int} {c:List Int} (h:Gx size labels c=true) (hl:labels<=1000):(c.length:Int)=size/\∀x∈c,-1000<=x/\x<=1000:=by
 unfold Gx at h;simp only[Zai,beq_iff_eq]at h;refine⟨h.1,fun x hx=>?_⟩
 have:=Zbh.1 h.2.2 x hx
 rw[aB]at this;omega
theorem xD (v:Value) (l:List (List Int)) (size labels:Int) (w:World) (h:bS w v l) (hs:1<=size/\size<=4) (hl:1<=labels/\labels<=8):
  Calls Tryz.prog 99 #[v,.int .i64 size,.int .i64 labels] w fun e w'=>e=.returned (.bool (zC l size labels))/\Below w.heap.size w w':=by
 have H:=zh h;obtain⟨A,c,rfl,fR,hm,-⟩:=h;unfold maxLen at hm;have wl:IntKind.i64.wrap (labels-1)=labels-1:=bU _ zO zO
 go_enter Tryz.func99,Tryz.ntmps99
 go_wp2
 go_loopw [12] (fun i wr=>∃k:Nat,k<=l.length/\i=.int .i64 k/\(List.range k).all (jY l size labels)=true/\Below w.heap.size w wr) (fun i _=>l.length-(intOf i).toNat)
 case atStart=>exact⟨0,Zac _,rfl,rfl,Zaf _ _⟩
 case round=>
  obtain⟨k,hk,rfl,c_,hb⟩:=hrel;obtain⟨gS,Hb⟩:=A_ c_ hb;clear c_ hb
  by_cases aA:k<l.length
  ·obtain⟨x,b,off,A1,z,hx,rfl,dk,dP,dY,na⟩:=fw H aA
   replace dk:=bc Hb dk
   obtain⟨Hx,Nu,PR⟩:=B_ hx na (na.agU Hb.out);obtain⟨_,_,e1,_,_,hxc⟩:=id na;cases e1;have Hxc:=zh hxc;clear hx na hxc
   have Md:Hid (jY l size labels k=(((x.length:Int)==size)&&(lY x&&lX x 0 (labels-1))&&(k==0||decide (eu (l.getD (k-1) []) x<0)))):=by show _=_;unfold jY Gx;rw[ag Hx.out]
   by_cases ii:(x.length:Int)=size
   ·cases oe:lX x 0 (labels-1)
    ·have GB:=zh oe
     go_wp2_with (go_at_call 87;refine(yA _ x 0 (labels-1) _ PR).mono ?_;rw[GB.out];rintro e w1 ⟨rfl,rfl⟩)
     go_ret
     exact⟨aJ (nB aA (by rw[Md.out,GB.out];simp)),Hb⟩
    ·have GB:=zh oe;clear oe
     have hp:k=0\/∃y b' nf A2 z2,l[k-1]?=some y/\(some ⟨b,off,none⟩:Option Addr)=some ⟨b',nf,none⟩/\wr.cell? ⟨b',nf+(k-1),none⟩=some (.slice A2 y.length z2)/\y.length<=z2/\z2<=9223372036854775807/\bs wr (.slice A2 y.length z2) y/\0<k:=by
      rcases Zbk k with h0 | h0
      ·exact .inl h0
      ·obtain⟨y,b',nf,A2,z2,g1,g2,g3,g4,g5,g6⟩:=fw (H.agU Hb) (k:=k-1) zO;exact .inr ⟨y,b',nf,A2,z2,g1,g2,g3,g4,g5,g6,h0⟩
     rcases hp with h0 | ⟨y,b',nf,A2,z2,hy,he,jT,VH,VI,CM,VA⟩
     case' inl=>
      have Hg:Hid ((k==0||decide (eu (l.getD (k-1) []) x<0))=true):=by show _=_;rw[h0];rfl
      have Dx:¬(k:Int)>0:=zO
      clear h0
      go_upto_region 6 with(go_at_call 87;refine(yA _ x 0 (labels-1) _ PR).mono ?_;rw[GB.out];rintro e w1 ⟨rfl,rfl⟩)
     case' inr=>
      cases he;obtain⟨Hys,Hpr⟩:=A_ CM (Zn (QM gS.out VA hy) zO)
      have QO:Hid (∀q∈x,-1000<=q/\q<=1000):=fun q hq=>zX (aB.1 (Zbh.1 GB.out q hq))
      have Nv:Hid (y.length=x.length):=by have:=Hpr.1;exact show _=_ by omega
      have wk:IntKind.i64.wrap ((k:Int)-1)=((k-1:Nat):Int):=by rw[bU _ zO zO];omega
      obtain⟨cv,EH⟩:=K_ (eu y x)
      obtain⟨zW,Hy⟩:=A_ EH hy;clear hy CM EH
      by_cases np:cv>=0
      ·go_wp2_with (first | (go_at_call 87;refine(yA _ x 0 (labels-1) _ PR).mono ?_;rw[GB.out];rintro e w1 ⟨rfl,rfl⟩) | (go_at_call 148;refine(ra _ _ y x _ Hys PR Nv Hpr.2 QO).mono ?_;rw[zW.out];rintro e w1 ⟨rfl,rfl⟩))
       go_ret
       exact⟨aJ (nB aA (by rw[Md.out,ag Hy.out,zW.out];simp;omega)),Hb.out⟩
      have Hg:Hid ((k==0||decide (eu (l.getD (k-1) []) x<0))=true):=by show _=_;rw[ag Hy.out,zW.out];simp;omega
      go_upto_region 6 with(first | (go_at_call 87;refine(yA _ x 0 (labels-1) _ PR).mono ?_;rw[GB.out];rintro e w1 ⟨rfl,rfl⟩) | (go_at_call 148;refine(ra _ _ y x _ Hys PR Nv Hpr.2 QO).mono ?_;rw[zW.out];rintro e w1 ⟨rfl,rfl⟩))
     all_goals
      have Zo:=zh Md.out;rw[Hg.out,GB.out]at Zo;clear dk
      try clear jT VH VI wk VA
      go_wp2
      go_loopw [9] (fun i ws=>∃j:Nat,1<=j/\i=.int .i64 j/\(∀q,q+1<j->q+1<x.length->x.getD q 0<=x.getD (q+1) 0)/\Below w.heap.size w ws) (fun i _=>x.length-(intOf i).toNat)
      case atStart=>exact⟨1,Zaj _,rfl,fun q h=>zO,Hb⟩
      case round=>
       obtain⟨j,zZ,rfl,z6,hb⟩:=hrel;obtain⟨FQ,oN,Hj1⟩:=B_ z6 hb zZ;clear z6 hb
       by_cases FR:(j:Int)<size
       ·obtain⟨m,rfl⟩:∃m,j=m+1:=⟨j-1,zO⟩
        obtain⟨p,bp,op,hp,rfl,Me⟩:=fv Hxc (k:=m) zO;obtain⟨q,bq,oq,hq,he,th⟩:=fv Hxc (k:=m+1) zO;cases he;have k1:=ae (bc oN Me);have k2:=ae (bc oN th)
        have wj:IntKind.i64.wrap (((m+1:Nat):Int)-1)=(m:Int):=by rw[bU _ zO zO];omega
        have wm:IntKind.i64.wrap (m:Int)=(m:Int):=bU _ zO zO;have qQ:(m:Int)<size:=zO
        have gC:(m:Int)+1<size:=zO
        have jz:(0:Int)<=(m:Int)+1:=zO
        obtain⟨Hp,Hq⟩:=A_ hp hq;clear hp hq Me th;go_upto_region 9 with(fail);refine ap 10 (ab wr) zK zK zS (aj (aa _)) ?_;simp only[zT]
        iterate 10 (refine ch rfl ?_;simp only[zA])
        intro W5 uO;have J3:=zh (oN.out.trans (uO.mono oN.out.size));clear uO k1 k2
        by_cases hpq:p>q
        ·go_wp2;go_ret
         exact⟨aJ (nB aA (by rw[Zo.out,zR Hp.out Hq.out zO];simp)),J3⟩
        ·go_wp2;go_roundw
         case rel=>
          refine⟨m+1+1,zO,zM,fun i h1 h2=>?_,J3⟩
          rcases Zbi i m with h3 | h3
          ·exact FQ i zO h2
          ·obtain rfl:i=m:=zO
           rw[ag Hp.out,ag Hq.out];omega
         simp[intOf];omega
       ·have eZ:Hid (jY l size labels k=true):=by
         show _=_
         rw[Zo.out,nC.2 fun i hi=>FQ.out i zO hi]
         simp[ii]
        go_wp2;go_roundw
        exact⟨k+1,zO,zM,zV gS eZ,oN⟩
        simp[intOf];omega
   ·have jb:=zh ii;go_wp2;go_ret
    exact⟨aJ (nB aA (by rw[Md.out];simp[jb.out])),Hb⟩
  ·obtain rfl:k=l.length:=zO
   go_wp2;go_ret;exact⟨eT gS,Hb⟩
section
variable {ops : Array Oper}
end
theorem kY (v:Value) (l:List (List Int)) (size labels:Int) (w:World) (h:bS w v l) (hl:1<=labels/\labels<=8):
  Calls Tryz.prog 77 #[v,.int .i64 size,.int .i64 labels] w fun e w'=>e=.returned (.bool (zC l size labels))/\Below w.heap.size w w':=by
 have H:=zh h;obtain⟨A,c,rfl,fR,hm,-⟩:=h;unfold maxLen at hm;have wl:IntKind.i64.wrap (labels-1)=labels-1:=bU _ zO zO
 go_enter Tryz.func77,Tryz.ntmps77
 go_wp2
 go_loopw [11] (fun i wr=>∃k:Nat,k<=l.length/\i=.int .i64 k/\(List.range k).all (jY l size labels)=true/\Below w.heap.size w wr) (fun i _=>l.length-(intOf i).toNat)
 case atStart=>exact⟨0,Zac _,rfl,rfl,Zaf _ _⟩
 case round=>
  obtain⟨k,hk,rfl,c_,hb⟩:=hrel;obtain⟨gS,Hb⟩:=A_ c_ hb;clear c_ hb
  by_cases aA:k<l.length
  ·obtain⟨x,b,off,A1,z,hx,rfl,dk,dP,dY,na⟩:=fw H aA
   replace dk:=bc Hb dk
   obtain⟨Hx,HX⟩:=A_ hx (show ∀X,ab wr X->bs X (.slice A1 x.length z) x from fun X hX=>na.agU (Hb.out.trans (hX.mono Hb.out.size)))
   clear hx na
   have Md:Hid (jY l size labels k=(((x.length:Int)==size)&&(lY x&&lX x 0 (labels-1))&&(k==0||decide (eu (l.getD (k-1) []) x<0)))):=by show _=_;unfold jY Gx;rw[ag Hx.out]
   by_cases ii:(x.length:Int)=size
   ·cases FS:lY x
    ·have EJ:=zh FS;clear FS
     go_wp2_with (go_at_call 132;refine(jZ _ x _ (HX _ (aa _))).mono ?_;rw[EJ.out];rintro e w1 ⟨rfl,aP⟩)
     go_ret
     exact⟨aJ (nB aA (by rw[Md.out,EJ.out];simp)),Hb.trans (aP.mono Hb.size)⟩
    ·have EJ:=zh FS;clear FS;cases oe:lX x 0 (labels-1)
     ·have GB:=zh oe;clear oe
      go_wp2_with (first | (go_at_call 132;refine(jZ _ x _ (HX _ (aa _))).mono ?_;rw[EJ.out];rintro e w1 ⟨rfl,aP⟩) | (go_at_call 83;refine(jN _ x 0 (labels-1) _ (HX _ aP)).mono ?_;rw[GB.out];rintro e w2 ⟨rfl,aS⟩))
      go_ret
      exact⟨aJ (nB aA (by rw[Md.out,GB.out];simp)),Hb.trans ((ab.trans aP aS).mono Hb.size)⟩
     ·obtain⟨GB,jb⟩:=A_ oe ii;clear oe;rcases Zbk k with h0 | h0
      ·have Dx:¬(k:Int)>0:=zO
       have eZ:Hid (jY l size labels k=true):=by show _=_;rw[Md.out,EJ.out,GB.out,h0];simp[jb.out]
       clear h0
       go_wp2_with (first | (go_at_call 132;refine(jZ _ x _ (HX _ (aa _))).mono ?_;rw[EJ.out];rintro e w1 ⟨rfl,aP⟩) | (go_at_call 83;refine(jN _ x 0 (labels-1) _ (HX _ aP)).mono ?_;rw[GB.out];rintro e w2 ⟨rfl,aS⟩))
       have rc:=zh (Hb.out.trans ((ab.trans aP aS).mono Hb.out.size));clear aP aS;go_wp2;go_roundw
       exact⟨k+1,zO,zM,zV gS eZ,rc⟩
       simp[intOf];omega
      ·obtain⟨y,b',nf,A2,z2,hy,he,jT,VH,VI,CM⟩:=fw H (k:=k-1) zO;cases he
       replace jT:=bc Hb jT
       obtain⟨HY,Hy⟩:=A_ (show ∀X,ab wr X->bs X (.slice A2 y.length z2) y from fun X hX=>CM.agU (Hb.out.trans (hX.mono Hb.out.size))) hy;obtain⟨cv,EH⟩:=K_ (eu y x)
       have zW:=zh EH
       have wk:IntKind.i64.wrap ((k:Int)-1)=((k-1:Nat):Int):=by rw[bU _ zO zO];omega
       have lW:k-1<l.length:=zO
       have q2:=ae jT;clear hy CM EH jT
       by_cases np:cv>=0
       ·go_wp2_with (first | (go_at_call 132;refine(jZ _ x _ (HX _ (aa _))).mono ?_;rw[EJ.out];rintro e w1 ⟨rfl,aP⟩) | (go_at_call 83;refine(jN _ x 0 (labels-1) _ (HX _ aP)).mono ?_;rw[GB.out];rintro e w2 ⟨rfl,aS⟩;have fH:ab wr w2:=ab.trans aP aS) | (go_at_call 133;refine(fV _ _ y x _ (HY _ (ab.trans aP aS)) (HX _ (ab.trans aP aS))).mono ?_;rw[zW.out];rintro e w3 ⟨rfl,er⟩))
        go_ret
        exact⟨aJ (nB aA (by rw[Md.out,ag Hy.out,zW.out];simp;omega)),Hb.out.trans ((ab.trans (ab.trans aP aS) er).mono Hb.out.size)⟩
       ·have eZ:Hid (jY l size labels k=true):=by show _=_;rw[Md.out,EJ.out,GB.out,ag Hy.out,zW.out];simp[jb.out];omega
        go_wp2_with (first | (go_at_call 132;refine(jZ _ x _ (HX _ (aa _))).mono ?_;rw[EJ.out];rintro e w1 ⟨rfl,aP⟩) | (go_at_call 83;refine(jN _ x 0 (labels-1) _ (HX _ aP)).mono ?_;rw[GB.out];rintro e w2 ⟨rfl,aS⟩;have fH:ab wr w2:=ab.trans aP aS) | (go_at_call 133;refine(fV _ _ y x _ (HY _ (ab.trans aP aS)) (HX _ (ab.trans aP aS))).mono ?_;rw[zW.out];rintro e w3 ⟨rfl,er⟩))
        have rc:=zh (Hb.out.trans ((ab.trans (ab.trans aP aS) er).mono Hb.out.size));clear aP aS er fH q2;go_wp2;go_roundw
        exact⟨k+1,zO,zM,zV gS eZ,rc⟩
        simp[intOf];omega
   ·have jb:=zh ii;go_wp2;go_ret
    exact⟨aJ (nB aA (by rw[Md.out];simp[jb.out])),Hb⟩
  ·obtain rfl:k=l.length:=zO
   go_wp2;go_ret;exact⟨eT gS,Hb⟩
theorem Zp {l:List (List Int)} {t:List Int} (h:∀(k:Nat) (x:List Int),l[k]?=some x->x≠t):l.contains t=false:=by
 rw[Bool.eq_false_iff];intro hc;rw[Zbv]at hc;obtain⟨k,hk⟩:=List.mem_iff_getElem?.1 hc;exact h k t hk rfl
theorem Nw (v u:Value) (l:List (List Int)) (t:List Int) (w:World) (h:bS w v l) (h':bs w u t):
  Calls Tryz.prog 180 #[v,u] w fun e w'=>e=.returned (.bool (l.contains t))/\Below w.heap.size w w':=by
 obtain⟨H,HT⟩:=A_ h h';obtain⟨A,c,rfl,fR,hm,-⟩:=h;obtain⟨AT,cT,rfl,-⟩:=h';unfold maxLen at hm
 go_enter Tryz.func180,Tryz.ntmps180
 go_wp2
 go_loopw [9] (fun i wr=>∃k:Nat,k<=l.length/\i=.int .i64 k/\(∀(q:Nat) (x:List Int),q<k->l[q]?=some x->x≠t)/\Below w.heap.size w wr) (fun i _=>l.length-(intOf i).toNat)
 case atStart=>exact⟨0,Zac _,rfl,fun q x h=>zO,Zaf _ _⟩
 case round=>
  obtain⟨k,hk,rfl,c_,hb⟩:=hrel;obtain⟨gS,Hb⟩:=A_ c_ hb;clear c_ hb
  by_cases aA:k<l.length
  ·obtain⟨x,b,off,A1,z,hx,rfl,dk,dP,dY,na⟩:=fw H aA
   replace dk:=bc Hb dk
   obtain⟨Hx,PR⟩:=A_ hx (na.agU Hb.out);clear hx na
   by_cases htx:t=x
   ·have Hd:=zh (decide_eq_true htx)
    have Hr:Hid (l.contains t=true):=by show _=_;rw[Zbv];exact htx ▸ Zaq Hx.out
    clear htx
    go_wp2_with (go_at_call 167;refine(pG _ _ t x _ (HT.agU Hb) PR).mono ?_;rw[Hd.out];rintro e w1 ⟨rfl,aP⟩)
    go_ret;exact⟨eT Hr,Hb.trans (aP.mono Hb.size)⟩
   ·obtain⟨Hd,Htx⟩:=A_ (decide_eq_false htx) htx;clear htx
    go_wp2_with (go_at_call 167;refine(pG _ _ t x _ (HT.agU Hb) PR).mono ?_;rw[Hd.out];rintro e w1 ⟨rfl,aP⟩)
    have rc:=zh (Hb.out.trans (aP.mono Hb.out.size));clear aP;go_wp2;go_roundw
    case rel=>
     refine⟨k+1,zO,zM,fun q y h1 h2=>?_,rc⟩
     rcases Zbi q k with h3 | h3
     ·exact gS q y h3 h2
     ·obtain rfl:q=k:=zO
      have h4:=Hx.out;rw[h2]at h4;cases h4;exact fun e=>Htx e.symm
    simp[intOf];omega
  ·obtain rfl:k=l.length:=zO
   go_wp2;go_ret;exact⟨aJ (Zp fun q x hq=>gS q x (ah hq) hq),Hb⟩
open Go.RowKit Go.Shelf
attribute [local go_sem] Oper.semAt_some
def QP (x:Int):Array Value:=#[.int .i64 x]
theorem GC (F:Fence) (n:Nat) (hf:F.fn 207) (J6:F.round=none) (hn:1<=n) (Bs:Nat) (sv:Value) (xs:List Int) (w:World) (hc:w.cell? ⟨Bs,0,none⟩=some sv) (hI:bs w sv xs):
  SeqStopsK F n Tryz.prog 207 #[.pointer (some ⟨Bs,0,none⟩)] QP (gx 0 w.heap.size) (fun ys=>ys=xs) (fun _=>True) xs.length w:=fun l J Jx W hW _ _ hY h0=>by
 have UV:=bc hW hc;obtain⟨A,c,rfl,fR,hm,hA⟩:=hI;unfold maxLen at hm;obtain⟨HA,HW,HY⟩:=B_ hA hW hY;clear hA hW hc hY;refine callsIn_of_wp Tryz.func207 rfl hf ?_ J6
 simp only[Tryz.ntmps207,List.size_toArray,Zaz,List.length_nil,Nat.reduceAdd,Nat.reduceSub,Array.replicate_succ,Array.replicate_zero,List.push_toArray,List.append_toArray,List.nil_append,List.cons_append]
 gi_wp2
 gi_loopw [7] (fun i wr=>∃k:Nat,k<=xs.length/\i=.int .i64 k/\J (xs.take k) wr/\gx 0 w.heap.size W wr) (fun i _=>xs.length-(intOf i).toNat)
 case atStart=>exact⟨0,Zac _,rfl,by simpa using h0,gx.refl _ _ _⟩
 case round=>
  obtain⟨k,hk,rfl,hJs,hnx⟩:=hrel;have si:=zh hnx;clear hnx
  by_cases aA:k<xs.length
  ·obtain⟨x,b,off,hx,rfl,dk⟩:=fv HA aA;have FN:b<w.heap.size:=World.block_lt_of_cell? w _ dk;have ti:wr.cell? ⟨b,off+k,none⟩=some (.int .i64 x):=si.cell (Zac _) FN (bc HW dk)
   obtain⟨fn,tmps,assign,body,hy,hR⟩:=HY _ x wr hJs (by rw[Zby];omega)
   unfold QP at hy;have Hx:=zh hx;clear hx dk
   gi_wp2
   refine hR.mono ?_
   rintro e W3 (⟨rfl,hJ3,PS⟩ | ⟨rfl,adY⟩)
   ·gi_wp2
    go_roundw
    exact⟨k+1,zO,zM,by rw[bJ Hx.out];exact hJ3,si.t PS⟩
    simp[intOf];omega
   ·gi_wp2
    refine bodyPost_ret (results_none rfl _ _ _) rfl ?_;exact⟨⟨_,rfl⟩,.inr ⟨_,trivial,adY⟩⟩
  ·obtain rfl:k=xs.length:=zO
   rw[Zbq]at hJs
   gi_wp2
   go_end0
   exact⟨⟨_,rfl⟩,.inl ⟨_,rfl,hJs⟩⟩
theorem Nx (n:Nat) (A:Option Addr) (k c:Nat) (w:World):
  CallsIn Fence.wide n Tryz.prog 183 #[.slice A k c] w fun e w'=>e=.returned (.func (.func 207) #[] #[.pointer (some ⟨w.heap.size,0,none⟩)])/\w'=w.alloc (.cells #[.slice A k c] 28):=by
 refine callsIn_of_wp Tryz.func183 rfl trivial ?_ rfl
 simp only[Tryz.ntmps183,List.size_toArray,Zaz,List.length_nil,Nat.reduceAdd,Nat.reduceSub,Array.replicate_succ,Array.replicate_zero,List.push_toArray,List.append_toArray,List.nil_append,List.cons_append]
 gi_wp2
 go_ret;exact⟨rfl,rfl⟩
def QQ (b0:Nat) (w:World) (pre:List Int) (W:World):Prop:=
 (∃v,Boxed W b0 28 v/\Own W (b0+1) v pre)/\Below b0 w W/\b0+1<=W.heap.size
theorem QR (b0:Nat) (w:World) (hb:b0<=w.heap.size) (B:Nat) (hB:b0<=B):OwnFrom B (QQ b0 w):=by
 refine OwnFrom.and ?_ (OwnFrom.and (ownFrom_below hb hB) (fun _ _ _ _ hs hg _=>Zak hs hg.size))
 have:=_root_.Go.Own.from (holdsRow_own (β:=List Int) (b0+1) b0 28 3 1 (fun pre=>pre.length) (fun pre=>pre.map (Value.int .i64)) (fun _ _=>True)) B
 intro s W W' row hs hg hr;obtain⟨v,h1,h2⟩:=hs;obtain⟨v',QD,Zq,_⟩:=this s W W' row ⟨v,h1,h2,trivial⟩ hg hr;exact⟨v',QD,Zq⟩
theorem Dy {b0 g' c':Nat} {w W w2:World} {pre:List Int} {x:Int} {v:Value} {o:Obj}
  (aS:Boxed W b0 28 v) (aI:Own W (b0+1) v pre) (hB:Below b0 w W) (fD:b0+1<=W.heap.size)
  (GD:Own w2 (b0+1) (.slice (some ⟨g',0,none⟩) (pre.length+1) c') (pre++[x])) (yi:(W.alloc o).grownBy w2 v.ownBlock):
  Boxed w2 b0 28 v/\KeepsFrom (b0+1) W (w2.setCell ⟨b0,0,none⟩ (.slice (some ⟨g',0,none⟩) (pre.length+1) c')) /\
   gx 0 b0 W (w2.setCell ⟨b0,0,none⟩ (.slice (some ⟨g',0,none⟩) (pre.length+1) c')) /\
   QQ b0 w (pre++[x]) (w2.setCell ⟨b0,0,none⟩ (.slice (some ⟨g',0,none⟩) (pre.length+1) c')):=by
 have aA:∀k,v.ownBlock=some k->b0+1<=k:=fun k hk=>(Zad aI k hk).1
 have adZ:some b0≠v.ownBlock:=fun e=>zX (aA b0 e.symm)
 have k2:Boxed w2 b0 28 v:=(aS.alloc o).kept yi adZ;have hg:=GD.blk;have k3:=(k2.set (.slice (some ⟨g',0,none⟩) (pre.length+1) c'))
 have o3:Own (w2.setCell ⟨b0,0,none⟩ (.slice (some ⟨g',0,none⟩) (pre.length+1) c')) (b0+1) (.slice (some ⟨g',0,none⟩) (pre.length+1) c') (pre++[x]):=
  World.ownsRow.kept GD (grownBy_setCell' w2 b0 _) (.inr (by simp[Value.ownBlock];omega))
 have JM:∀k,k<W.heap.size->k≠b0->v.ownBlock≠some k->(w2.setCell ⟨b0,0,none⟩ (.slice (some ⟨g',0,none⟩) (pre.length+1) c')).heap[k]?=W.heap[k]?:=by
  intro k hk h1 h3
  rw[Zan _ _ _ k h1,yi.block k (by show k<(W.alloc o).heap.size;simp;omega) (fun e=>h3 e.symm)]
  exact Below.heap_alloc W o k hk
 have CN:W.heap.size<=(w2.setCell ⟨b0,0,none⟩ (.slice (some ⟨g',0,none⟩) (pre.length+1) c')).heap.size:=by
  have:=yi.size
  simp[World.setCell]at *
  omega
 refine⟨k2,⟨CN,?_⟩,⟨CN,fun k h1 h2=>JM k zO zO (fun e=>zX (aA k e))⟩,⟨_,k3,o3⟩,?_,zO⟩
 ·intro k o' hk hko hc;refine(JM k (Zas.1 hko).1 zO (fun e=>?_)).trans hko
  rcases aI.2 with⟨rfl,_⟩ | ⟨gg,cap,cur,rfl,_,Dr,_⟩
  ·simp[Value.ownBlock]at e
  ·simp only[Value.ownBlock,Option.some.injEq]at e;subst e;rw[Dr]at hko;cases hko;simp[Obj.isCells]at hc
 ·refine hB.trans ⟨?_,?_,?_,CN,fun k hk=>JM k (zX hB.size) zO (fun e=>zX (aA k e))⟩
  ·exact yi.os
  ·exact yi.tape
  ·exact yi.output
theorem Ny (n:Nat) (hn:3<=n) (Bs:Nat) (sv:Value) (xs:List Int) (w:World) (hc:w.cell? ⟨Bs,0,none⟩=some sv) (hI:bs w sv xs) (hl:xs.length<=1000):
  CallsIn Fence.wide n Tryz.prog 216 #[.slice none 0 0,.func (.func 207) #[] #[.pointer (some ⟨Bs,0,none⟩)]] w fun e W'=>∃v,e=.returned v/\Own W' w.heap.size v xs/\Below w.heap.size w W':=by
 have ly:1<=n:=zO
 refine callsIn_of_wp_marks Tryz.func216 rfl trivial ?_ rfl
 simp only[Tryz.ntmps216,List.size_toArray,Zaz,List.length_nil,Nat.reduceAdd,Nat.reduceSub,Array.replicate_succ,Array.replicate_zero,List.push_toArray,List.append_toArray,List.nil_append,List.cons_append];obtain⟨Hc,HI⟩:=A_ hc hI;clear hc hI
 gi_wp2
 have hW0:(w.alloc (.cells #[.slice none 0 0] 28)).heap.size=w.heap.size+1:=zS
 refine wpIn_rangeFunc_ownG rfl ly (gf:=207) (lb:=#[.pointer (some ⟨Bs,0,none⟩)]) rfl trivial (enters_of Tryz.func207 zK rfl)
  (GC Fence.wide (n-1) trivial rfl zO Bs sv xs w Hc HI) gx.t (gx.b zS) (am _ _) (fun _=>rfl)
  (QQ w.heap.size w)
  (fun _ _ _=>False)
  (QR w.heap.size w (Zaj _) _ zS)
  (fun _ _ _ _ _ hs _ _=>hs)
  ⟨⟨_,Boxed.new w _ _,fA _ _⟩,am _ _,zS⟩
  (fun x => { tmps:=#[.slice none 0 0,.func (.func 207) #[] #[.pointer (some ⟨Bs,0,none⟩)],.pointer (some ⟨w.heap.size,0,none⟩),undef,.slice none 0 0,.int .i64 x,.func (.func 207) #[] #[.pointer (some ⟨Bs,0,none⟩)],.int .i64 x,undef,undef,undef,undef,undef],defers:=[] }) ?assign ?body ?done ?stop
 case assign=>
  intro l x W K hK;unfold QP
  gi_wp2
  exact hK
 case body=>
  rintro lr pre x W ⟨⟨v,aS,aI⟩,hB,abB⟩ aA
  obtain⟨g',c',w2,ig,GD,VJ,ut⟩:=adP (w:=W.alloc (.cells #[.int .i64 x] 3)) (aI.agU (am W _)) x 28 W.heap.size zS zO (by simp;omega)
  have jT:=aS.cell;obtain⟨k2,s1,s2,s3⟩:=Dy aS aI hB abB GD VJ;have jL:=k2.cell;have Mf:=k2.frozen
  have ad0:zm Tryz.prog 28 v (Value.slice (some { block:=W.heap.size,off:=0 }) 1 1) (W.alloc (Obj.cells #[Value.int IntKind.i64 x] 3))=.ok (.value (Value.slice (some { block:=g',off:=0 }) (pre.length+1) c')) w2:=by unfold zm;rw[ig];rfl
  have s0:=s1;rw[<- hW0]at s0;clear ig aS aI hB GD VJ ut k2 s1 hW0
  generalize XT:pre.length=pn at *
  gi_wp2_with (gi_at_builtin;refine EA (.tmp 8) (.tmp 10) rfl rfl _ w2 ad0 ?_)
  exact⟨s0,s2,s3⟩
 case done=>
  rintro D ys W hD rfl ⟨⟨v,aS,aI⟩,hB,abB⟩ hK;simp only[hW0]at hD;have jT:=aS.cell;obtain⟨HO,HB,HK,oN⟩:=C_ aI hB hK aS;clear aI hB hK aS
  gi_wp2
  refine⟨zS,.inl ⟨_,_,rfl,run_takeDeferred HK,?_⟩⟩;exact⟨_,results_tmp rfl _ _ _,v,rfl,JN (HO.mono zO) _ HK rfl,HB.trans (belowK_b (w:=w) (Zaj _) W D _ _ zO HK rfl rfl)⟩
 case stop=>
  rintro D c pre W _ _ h _;exact h.elim
theorem J7 (n:Nat) (hn:4<=n) (Bs:Nat) (sv:Value) (xs:List Int) (w:World) (hc:w.cell? ⟨Bs,0,none⟩=some sv) (hI:bs w sv xs) (hl:xs.length<=1000):
  CallsIn Fence.wide n Tryz.prog 206 #[.func (.func 207) #[] #[.pointer (some ⟨Bs,0,none⟩)]] w fun e W'=>∃v,e=.returned v/\Own W' w.heap.size v xs/\Below w.heap.size w W':=by
 obtain⟨Hc,HI⟩:=A_ hc hI;clear hc hI;have ly:1<=n:=zO
 refine callsIn_of_wp Tryz.func206 rfl trivial ?_ rfl
 simp only[Tryz.ntmps206,List.size_toArray,Zaz,List.length_nil,Nat.reduceAdd,Nat.reduceSub,Array.replicate_succ,Array.replicate_zero,List.push_toArray,List.append_toArray,List.nil_append,List.cons_append]
 gi_wp2_with (refine⟨trivial,?_⟩;gi_at_call 216;refine(Ny (n-1) zO Bs sv xs _ Hc HI hl).mono ?_;rintro e w1 ⟨v,rfl,ho,hb⟩)
 go_ret;exact⟨_,rfl,ho,hb⟩
theorem Nz (n:Nat) (hn:5<=n) (Bs:Nat) (sv:Value) (xs:List Int) (w:World) (hc:w.cell? ⟨Bs,0,none⟩=some sv) (hI:bs w sv xs) (hl:xs.length<=1000):
  CallsIn Fence.wide n Tryz.prog 182 #[.func (.func 207) #[] #[.pointer (some ⟨Bs,0,none⟩)]] w fun e W'=>∃v,e=.returned v/\Own W' w.heap.size v (dz xs)/\Below w.heap.size w W':=by
 obtain⟨Hc,HI⟩:=A_ hc hI;clear hc hI;have ly:1<=n:=zO
 refine callsIn_of_wp Tryz.func182 rfl trivial ?_ rfl
 simp only[Tryz.ntmps182,List.size_toArray,Zaz,List.length_nil,Nat.reduceAdd,Nat.reduceSub,Array.replicate_succ,Array.replicate_zero,List.push_toArray,List.append_toArray,List.nil_append,List.cons_append]
 gi_wp2_with (refine⟨trivial,?_⟩;gi_at_call 206;refine(J7 (n-1) zO Bs sv xs _ Hc HI hl).mono ?_;rintro e w1 ⟨v,rfl,ho,hb⟩)
 obtain⟨Ho,Hb⟩:=A_ ho hb;clear ho hb
 gi_wp2_with (refine⟨trivial,(callsIn_wide.2 (zl _ xs _ _ Ho zO)).mono ?_⟩;rintro e w2 ⟨rfl,dD,ut⟩)
 go_ret;exact⟨_,rfl,dD,Hb.grown ut Hb.size (fun k e=>(Zad Ho k e).1)⟩
section
variable {ops : Array Oper} {rest : List Oper} {o : Oper} {a : Act} {Q : Exit → Act → World → Prop}
end
section
variable {ops : Array Oper} {rest : List Oper} {o : Oper} {a : Act} {Q : Exit → Act → World → Prop}
end
section
variable {ops : Array Oper} {rest : List Oper} {o : Oper} {a : Act} {Q : Exit → Act → World → Prop}
end
section
open Go.ChangeShapes Go.WideShapes Go.ChangeAt Go.Joins Go.Deep
variable {H : Type} {enc : TypeId × Value → H} {W : World}
end
structure ASt where
 rounds:List Int
 before:List Int
 now:List Int
 ahK:List (List Int)
 ahF:List (List (List (Int×Int)))
theorem eG.put {β:Type} {R:World->Nat->Value->β->List Nat->Prop} (L:eG R) {w:World} {base:Nat} {v:Value} {x:β} {S:List Nat} (h:R w base v x S) {p:Addr} (hp:p.block<base) (u:Value):R (w.setCell p u) base v x S:=L.agV h fun k hk=>Zan _ _ _ _ (zX ((L.range h k hk).1))
theorem iC (w:World) (p:Addr) (u:Value):(w.setCell p u).heap.size=w.heap.size:=by simp[World.setCell]
def fF (w:World) (b:Nat) (vs:Array Value):Prop:=∃r,w.heap[b]?=some (.cells vs r)
theorem fF.lt {w:World} {b:Nat} {vs:Array Value} (h:fF w b vs):b<w.heap.size:=by
 obtain⟨r,h⟩:=h;exact(Zas.1 h).1
theorem fF.below {w w':World} {B b:Nat} {vs:Array Value} (h:fF w b vs) (hb:Below B w w') (hB:b<B):fF w' b vs:=by
 obtain⟨r,h⟩:=h
 exact⟨r,by rw[hb.block b hB];exact h⟩
theorem fF.set {w:World} {b:Nat} {vs:Array Value} {u:Value} {p:Addr} (h:fF w b vs) (ha:p.block≠b):fF (w.setCell p u) b vs:=by
 obtain⟨r,h⟩:=h
 exact⟨r,by rw[Zan _ _ _ _ (fun e=>ha e.symm)];exact h⟩
theorem fF.cell {w:World} {b:Nat} {vs:Array Value} (h:fF w b vs) (i:Nat) (u:Value) (hi:vs[i]?=some u):w.cell? ⟨b,i,none⟩=some u/\w.frozen? ⟨b,i,none⟩=false:=by
 obtain⟨r,h⟩:=h;exact⟨by simp[World.cell?,h,hi],by simp[World.frozen?,h]⟩
theorem fF.alloc {w:World} {b:Nat} {vs:Array Value} (h:fF w b vs) (o:Obj):fF (w.alloc o) b vs:=h.below (am w o) h.lt
theorem fF.new (w:World) (vs:Array Value) (t:TypeId):fF (w.alloc (.cells vs t)) w.heap.size vs:=⟨t,by show(w.heap.push _)[w.heap.size]?=_;rw[Zbc]⟩
structure Cl where
 state:Int
 inbox:List Int
 next:Int
section
variable {ops : Array Oper} {rest : List Oper} {o : Oper} {a : Act} {Q : Exit → Act → World → Prop}
end
def el (w:World) (a b:Value) (x:aq):Prop:=bS w a x.nodes/\bS w b x.agW
theorem el.agU {w w':World} {a b:Value} {x:aq} (h:el w a b x) (hb:Below w.heap.size w w'):el w' a b x:=⟨h.1.agU hb,h.2.agU hb⟩
def wB (x:aq):Nat:=CL x.nodes+CL x.agW
theorem UZ {w:World} {pa pb:Value} {p:aq} (hp:el w pa pb p):∃w0 P0 iG P1 it,pa=.slice P0 p.nodes.length iG/\pb=.slice P1 p.agW.length it/\p.nodes.length<=iG/\iG<=2^63-1/\p.agW.length<=it/\it<=2^63-1/\Hid (∀k xs,p.nodes[k]?=some xs->∃b off u,P0=some ⟨b,off,none⟩/\w0.cell? ⟨b,off+k,none⟩=some u/\bs w0 u xs)/\Hid (∀k xs,p.agW[k]?=some xs->∃b off u,P1=some ⟨b,off,none⟩/\w0.cell? ⟨b,off+k,none⟩=some u/\bs w0 u xs)/\Hid (el w0 (.slice P0 p.nodes.length iG) (.slice P1 p.agW.length it) p)/\Hid (w0=(w).alloc (.cells #[.int .i64 p.labels,.int .i64 p.degree,.slice P0 p.nodes.length iG,.slice P1 p.agW.length it] 26))/\Hid (Below w.heap.size w w0)/\(∀W,ab w0 W->W.cell? ⟨w.heap.size,0,none⟩=some (.int .i64 p.labels))/\(∀W,ab w0 W->W.cell? ⟨w.heap.size,1,none⟩=some (.int .i64 p.degree))/\(∀W,ab w0 W->W.cell? ⟨w.heap.size,2,none⟩=some (.slice P0 p.nodes.length iG))/\(∀W,ab w0 W->W.cell? ⟨w.heap.size,3,none⟩=some (.slice P1 p.agW.length it)):=by
 obtain⟨w0,bj⟩:=J_ ((w).alloc (.cells #[.int .i64 p.labels,.int .i64 p.degree,pa,pb] 26))
 have ks:Below w.heap.size w w0:=by rw[bj];exact((Zaf _ _).alloc (by simp <;> omega) _)
 have HP:=hp.agU ks;obtain⟨P0,iG,rfl,XQ,vU,hP0⟩:=id HP.1;obtain⟨P1,it,rfl,qs,qQ,hP1⟩:=id HP.2;unfold maxLen at vU qQ
 exact⟨w0,P0,iG,P1,it,rfl,rfl,XQ,vU,qs,qQ,zh hP0,zh hP1,zh HP,zh bj,zh ks,ae (by rw[bj];simp),ae (by rw[bj];simp),ae (by rw[bj];simp),ae (by rw[bj];simp)⟩
theorem Ah {w:World} {pa pb:Value} {p:aq} {ve vi vn:Value} {n:ao} (hp:el w pa pb p) (h:aR w ve vi vn n):∃w0 A c A2 c2 A3 c3 P0 iG P1 it,ve=.slice A n.ends.length c/\vi=.slice A2 n.ids.length c2/\vn=.slice A3 n.agT.length c3/\n.ends.length<=c/\c<=2^63-1/\c2<=2^63-1/\c3<=2^63-1/\Hid (∀k es,n.ends[k]?=some es->∃b off u,A=some ⟨b,off,none⟩/\w0.cell? ⟨b,off+k,none⟩=some u/\CF w0 u es)/\Hid (aR w0 (.slice A n.ends.length c) (.slice A2 n.ids.length c2) (.slice A3 n.agT.length c3) n)/\pa=.slice P0 p.nodes.length iG/\pb=.slice P1 p.agW.length it/\p.nodes.length<=iG/\iG<=2^63-1/\p.agW.length<=it/\it<=2^63-1/\Hid (∀k xs,p.nodes[k]?=some xs->∃b off u,P0=some ⟨b,off,none⟩/\w0.cell? ⟨b,off+k,none⟩=some u/\bs w0 u xs)/\Hid (∀k xs,p.agW[k]?=some xs->∃b off u,P1=some ⟨b,off,none⟩/\w0.cell? ⟨b,off+k,none⟩=some u/\bs w0 u xs)/\Hid (el w0 (.slice P0 p.nodes.length iG) (.slice P1 p.agW.length it) p)/\Hid (w0=((w).alloc (.cells #[.int .i64 p.labels,.int .i64 p.degree,.slice P0 p.nodes.length iG,.slice P1 p.agW.length it] 26)).alloc (.cells #[.slice A n.ends.length c,.slice A2 n.ids.length c2,.slice A3 n.agT.length c3] 30))/\Hid (Below w.heap.size w w0)/\(∀W,ab w0 W->W.cell? ⟨w.heap.size,0,none⟩=some (.int .i64 p.labels))/\(∀W,ab w0 W->W.cell? ⟨w.heap.size,1,none⟩=some (.int .i64 p.degree))/\(∀W,ab w0 W->W.cell? ⟨w.heap.size,2,none⟩=some (.slice P0 p.nodes.length iG))/\(∀W,ab w0 W->W.cell? ⟨w.heap.size,3,none⟩=some (.slice P1 p.agW.length it))/\(∀W,ab w0 W->W.cell? ⟨w.heap.size+1,0,none⟩=some (.slice A n.ends.length c))/\(∀W,ab w0 W->W.cell? ⟨w.heap.size+1,1,none⟩=some (.slice A2 n.ids.length c2))/\(∀W,ab w0 W->W.cell? ⟨w.heap.size+1,2,none⟩=some (.slice A3 n.agT.length c3)):=by
 obtain⟨w0,bj⟩:=J_ (((w).alloc (.cells #[.int .i64 p.labels,.int .i64 p.degree,pa,pb] 26)).alloc (.cells #[ve,vi,vn] 30))
 have ks:Below w.heap.size w w0:=by rw[bj];exact(((Zaf _ _).alloc (by simp <;> omega) _).alloc (by simp <;> omega) _)
 have H:=h.agU ks;obtain⟨h1,h2,h3⟩:=h.agU ks;obtain⟨A,c,rfl,fR,hm,hA⟩:=h1;obtain⟨A2,c2,rfl,_,gC,_⟩:=h2;obtain⟨A3,c3,rfl,_,jz,_⟩:=h3;unfold maxLen at hm gC jz;have HP:=hp.agU ks;obtain⟨P0,iG,rfl,XQ,vU,hP0⟩:=id HP.1;obtain⟨P1,it,rfl,qs,qQ,hP1⟩:=id HP.2;unfold maxLen at vU qQ
 exact⟨w0,A,c,A2,c2,A3,c3,P0,iG,P1,it,rfl,rfl,rfl,fR,hm,gC,jz,zh hA,zh H,rfl,rfl,XQ,vU,qs,qQ,zh hP0,zh hP1,zh HP,zh bj,zh ks,ae (by rw[bj];simp),ae (by rw[bj];simp),ae (by rw[bj];simp),ae (by rw[bj];simp),ae (by rw[bj];simp),ae (by rw[bj];simp),ae (by rw[bj];simp)⟩
theorem GQ {w0:World} {a:Value} {l:List (List Int)} (h:bS w0 a l):∀W,ab w0 W->bS W a l:=fun _ hW=>h.agU hW
theorem Ai {w0:World} {a b:Value} {p:aq} (h:el w0 a b p):∀W,ab w0 W->el W a b p:=fun _ hW=>h.agU hW
structure Mac where
 degree:Int
 ahI:Int
 messages:Int
 start:List (List Int)
 send:List (List Int)
 clauses:List Cl
 output:List Int
def pH (nU l:List Int) (i k:Nat):Prop:=∃(A:List Int) (x:Int) (B C:List Int),l=A++x::(B++C)/\A.length=k/\A.length+B.length=i/\(A++B).Pairwise (· <= ·)/\(∀b∈B,x<=b)/\l.Perm nU
def uQ (nU l:List Int) (i:Nat):Prop:=(l.take i).Pairwise (· <= ·)/\l.Perm nU
theorem NA {nU l:List Int} {i:Nat} (h:uQ nU l i) (hi:i<l.length):pH nU l i i:=by
 refine⟨l.take i,l[i],[],l.drop (i+1),?_,by simp;omega,by simp;omega,by simpa using h.1,zS,h.2⟩
 rw[List.nil_append,<- Zbt hi,List.take_append_drop]
theorem EK {A B:List Int} {x:Int} (h:(A++B).Pairwise (· <= ·)) (ha:∀a∈A,a<=x) (hb:∀b∈B,x<=b):(A++x::B).Pairwise (· <= ·):=by
 rw[List.pairwise_append]at h ⊢;refine⟨h.1,List.pairwise_cons.2 ⟨hb,h.2.1⟩,?_⟩;intro a ha' b hb';rcases Zbe.1 hb' with rfl | hb'
 ·exact ha a ha'
 ·exact h.2.2 a ha' b hb'
theorem GF {nU l:List Int} {i k:Nat} (h:pH nU l i k) (hk:k=0\/∃y x,l[k-1]?=some y/\l[k]?=some x/\y<=x):uQ nU l (i+1):=by
 obtain⟨A,x,B,C,rfl,h1,h2,h3,h4,h5⟩:=h;refine⟨?_,h5⟩
 have e:(A++x::(B++C)).take (i+1)=A++x::B:=by
  rw[show A++x::(B++C)=(A++x::B)++C by simp,List.take_append_of_le_length (by simp;omega),Zbz (by simp;omega)]
 rw[e];refine EK h3 ?_ h4;intro a ha;rcases hk with hk | ⟨y,z,hy,hz,hyz⟩
 ·obtain rfl:A=[]:=Zae zO
  simp at ha
 ·have hz':z=x:=by
   rw[Zca zO,<- h1]at hz;simpa using hz.symm
  subst hz';obtain⟨j,hj,rfl⟩:=List.mem_iff_getElem.1 ha;have hA:A.Pairwise (· <= ·):=(List.pairwise_append.1 h3).1;rw[Zcb zO]at hy;obtain⟨hl,he⟩:=Zbs.1 hy;rcases Zbi j (k-1)with aA | hge
  ·have:=Zbg.1 hA j (k-1) hj hl aA
   omega
  ·obtain rfl:j=k-1:=zO
   omega
theorem QS {nU l:List Int} {i k:Nat} {x y:Int} (h:pH nU l i (k+1)) (hy:l[k]?=some y) (hx:l[k+1]?=some x) (UX:x<y):pH nU ((l.set (k+1) y).set k x) i k:=by
 obtain⟨A,x',B,C,rfl,h1,h2,h3,h4,h5⟩:=h
 have FO:x'=x:=by
  rw[Zca zO,<- h1]at hx;simpa using hx
 subst FO;rw[Zcb zO]at hy;obtain⟨hl,he⟩:=Zbs.1 hy
 obtain⟨A',hA⟩:∃A',A=A'++[y]:=by
  refine⟨A.take k,?_⟩
  have:A.take (k+1)=A:=Zbz zO
  have e2:=List.take_succ_eq_append_getElem hl;rw[this,he]at e2;exact e2
 subst hA;simp only[Zay,Zaz,List.length_nil,Zba]at h1 h2;have hk:A'.length=k:=zO
 have e:((A'++[y]++x'::(B++C)).set (k+1) y).set k x'=A'++x'::((y::B)++C):=by
  rw[show A'++[y]++x'::(B++C)=A'++(y::x'::(B++C))by simp,List.set_append_right _ _ zO,List.set_append_right _ _ zO,hk]
  simp
 rw[e]
 refine⟨A',x',y::B,C,rfl,hk,by simp;omega,by simpa using h3,?_,?_⟩
 ·intro b hb;rcases Zbe.1 hb with rfl | hb
  ·omega
  ·exact h4 b hb
 ·refine List.Perm.trans ?_ h5;rw[show A'++[y]++x'::(B++C)=A'++(y::x'::(B++C))by simp]
  exact List.Perm.append_left _ (List.Perm.swap _ _ _)
theorem J8 {nU l:List Int} (h:uQ nU l l.length):l=dz nU:=by
 have h1:=h.1;rw[Zbq]at h1;exact xB (h.2.trans (ft _).symm) h1 (fa _)
theorem VK {nU l:List Int} {i k:Nat} (h:pH nU l i k):l.length=nU.length/\k<=i/\i<l.length:=by
 obtain⟨A,x,B,C,rfl,h1,h2,h3,h4,h5⟩:=h
 refine⟨h5.length_eq,zO,by simp;omega⟩
end Go.Proofs.YtnioemnkfojmkaaGreat
