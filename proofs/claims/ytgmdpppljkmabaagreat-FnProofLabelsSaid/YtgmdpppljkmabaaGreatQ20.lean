/- Parts of the proof: walks of functions and plain laws. -/
import Derived.Test.YtgmdpppljkmabaaGreatQ0
import Derived.Test.YtgmdpppljkmabaaGreatQ1
import Derived.Test.YtgmdpppljkmabaaGreatQ19
import Derived.Test.YtgmdpppljkmabaaGreatQ9
import Derived.Test.YtgmdpppljkmabaaGreatQ5
import Derived.Test.YtgmdpppljkmabaaGreatQ6
import Derived.Test.YtgmdpppljkmabaaGreatQ18
set_option maxRecDepth 100000
set_option maxHeartbeats 16000000
namespace Go.Proofs.YtgmdpppljkmabaaGreat
open Go Go.RowKit
theorem RO {n:ak} {r v k:Nat} {es:List (Int×Int)} (bW:n.ends[v]?=some es) {e:Int×Int} (he:es[k]?=some e) (hp:0<aw n r v/\aw n r e.1.toNat=aw n r v-1) (iA:∀j f,j<k->es[j]?=some f->¬(0<aw n r v/\aw n r f.1.toNat=aw n r v-1)):fX n r v=(k:Int):=by
 unfold fX;rw[au bW]
 have:es.findIdx? (fun e=>decide (0<aw n r v)&&decide (aw n r e.1.toNat=aw n r v-1))=some k:=by
  rw[List.findIdx?_eq_some_iff_getElem];obtain⟨hk,BA⟩:=List.getElem?_eq_some_iff.1 he
  refine⟨hk,by rw[BA,decide_eq_true hp.1,decide_eq_true hp.2];rfl,fun j hj=>?_⟩
  have:=iA j es[j] hj (List.getElem?_eq_getElem (by omega))
  intro hc;rw[Bool.and_eq_true,decide_eq_true_eq,decide_eq_true_eq]at hc;exact this hc
 rw[this]
theorem OZ {n:ak} {r v:Nat} {es:List (Int×Int)} (bW:n.ends[v]?=some es) (iA:∀j f,j<es.length->es[j]?=some f->¬(0<aw n r v/\aw n r f.1.toNat=aw n r v-1)):fX n r v = -1:=by
 unfold fX;rw[au bW]
 have:es.findIdx? (fun e=>decide (0<aw n r v)&&decide (aw n r e.1.toNat=aw n r v-1))=none:=by
  rw[List.findIdx?_eq_none_iff];intro e he;obtain⟨j,hj⟩:=List.getElem?_of_mem he
  have:=iA j e (an hj) hj
  cases hc:(decide (0<aw n r v)&&decide (aw n r e.1.toNat=aw n r v-1))
  ·rfl
  ·rw[Bool.and_eq_true,decide_eq_true_eq,decide_eq_true_eq]at hc;exact absurd hc this
 rw[this]
theorem nP {n:ak} (hn:al n=true) {r v:Nat} (hr:r<n.ends.length) (hv:v<n.ends.length) : -1<=aw n r v/\aw n r v<n.ends.length:=by
 have:=sq hn hr hv
 unfold aw;omega
theorem jX {n:ak} (hn:al n=true) {r:Nat} (hr:r<n.ends.length) {w:World} {A:Option Addr} {c:Nat} (h:aY w (.slice A n.ends.length c) (bS n r)):∃b off,A=some ⟨b,off,none⟩/\∀x,x<n.ends.length->∀W,aa w W->W.cell? ⟨b,off+x,none⟩=some (.int .i64 (aw n r x)):=by
 obtain⟨A',c',e,_,_,hA⟩:=h;have hl:(bS n r).length=n.ends.length:=kQ hn _ _ _ (BI.start hr);rw[hl]at e;cases e
 obtain⟨b,off,e,-⟩:=hA 0 ((bS n r).getD 0 0) (by rw[zDd,List.getElem?_eq_getElem (by have:=aE hn;omega)];rfl)
 refine⟨b,off,e,fun x hx W hW=>?_⟩
 obtain⟨b',oY,e',hc⟩:=hA x ((bS n r).getD x 0) (by rw[zDd,List.getElem?_eq_getElem (by omega)];rfl)
 rw[e]at e';cases e';exact ae hc W hW
theorem B_ (ve vi vn:Value) (n:ak) (r v cF:Nat) (AF:Option Addr) (w:World) (h:aQ w ve vi vn n) (hn:al n=true) (hr:r<n.ends.length) (hv:v<n.ends.length) (hF:aY w (.slice AF n.ends.length cF) (bS n r)):
  Calls Tryz.prog 211 #[.agg #[ve,vi,vn],.slice AF n.ends.length cF,.int .i64 v] w fun e w'=>e=.returned (.int .i64 (fX n r v))/\Below w.heap.size w w':=by
 obtain⟨bF,oF,rfl,fj⟩:=jX hn hr hF;have HF:=zh fj;have Hn:=zh hn;have lN:=(aE hn).2;obtain⟨es,bW⟩:=aM n.ends v hv;obtain⟨he6,eU⟩:=bX hn bW;have kw:=zh bW;have rL:=zh eU;have Me:=nP hn hr hv;have Hr:=zh hr;clear hn hF fj bW eU
 obtain⟨w0,A,c,A2,c2,A3,c3,rfl,rfl,rfl,eV,hm,fJ,fB,HA,bK,aT,H,dL,dR,dU⟩:=zB h;clear h
 go_enter Tryz.func211,Tryz.ntmps211
 go_upto_region 1 with(fail);rw[<- bK.out];go_wp2_with fail;refine(iZ _ _ _ n v es w0 H.out kw.out (by omega)).mono ?_;rintro e w1 ⟨u,rfl,ho,ay⟩;have cY:aa w0 w1:=ay;obtain⟨AU,cU,rfl,-,-,-⟩:=id ho.ints;have hul:(es.map (·.1)).length=es.length:=List.length_map _;rw[hul]at ho;have Ho:=zh ho;have dC:=zh cY;have Hs:=zh (aa.after aT.out cY);obtain⟨dv,hdv⟩:∃z,z=aw n r v:=⟨_,rfl⟩
 rw[<- hdv]at Me;have m0:IntKind.i64.wrap (dv-1)=dv-1:=aF _ (by omega) (by omega);have Hdv:=zh hdv;clear ho cY ay hul hdv;rw[List.length_map];go_wp2
 go_loopw [13] (fun i wr=>∃k:Nat,k<=es.length/\i=.int .i64 k/\aa w1 wr/\∀j f,j<k->es[j]?=some f->¬(0<aw n r v/\aw n r f.1.toNat=aw n r v-1)) (fun i _=>es.length-(intOf i).toNat)
 case atStart=>exact⟨0,Nat.zero_le _,rfl,ad _,fun j f hj=>by omega⟩
 case round=>
  obtain⟨k,hk,rfl,d_,iA⟩:=hrel;have b_:=zh d_;have q9:=zh iA;clear d_ iA
  by_cases hlt:k<es.length
  ·obtain⟨e,he⟩:=aM es k hlt;have Ql:=rL.out e (List.mem_of_getElem? he);obtain⟨x,hx⟩:=Int.eq_ofNat_of_zero_le Ql.1;have vh:x<n.ends.length:=by omega
   have dl:=Own.since Ho.out b_.out;rcases dl.cases with⟨-,h9⟩ | ⟨g,cg,hvv,-,-⟩
   ·exfalso
    have:=congrArg List.length h9
    simp at this
    subst this;simp at hlt
   ·rw[List.length_map]at hvv;cases hvv
    have c0:=dl.cell (k:=k) (x:=(x:Int)) (by rw[List.getElem?_map,he];show some e.1=_;rw[hx])
    have d1:=HF.out v hv wr (aa.trans Hs.out b_.out);have d2:=HF.out x vh;rw[<- Hdv.out]at d1;obtain⟨dw,hdw⟩:∃z,z=aw n r x:=⟨_,rfl⟩
    rw[<- hdw]at d2;have Hdw:=zh hdw;have He:=zh he;have Hx:=zh hx;have m1:IntKind.i64.wrap ((k:Int)+1)=(k:Int)+1:=aF _ (by omega) (by omega);have Rv:=ae d1;have TB:∀W,aa wr W->W.cell? ⟨bF,oF+x,none⟩=some (.int .i64 dw):=fun W hW=>d2 W (aa.trans (aa.trans Hs.out b_.out) hW)
    obtain⟨wo,rfl⟩:∃z,z=wr:=⟨_,rfl⟩
    clear dl hdw he hx Ql d1 d2;go_upto_region 4 with(fail);clear c0;refine ar 17 (aa wo) (by kernel_rfl) (by kernel_rfl) (by simp) (aj (ad _)) ?_;simp only[zT]
    iterate 3 (refine bU rfl ?_;simp only[zA])
    apply de rfl;(intro W hW;have k1:=Rv W hW;go_simp;with_reducible rfl);simp only[zA]
    iterate 2 (refine bU rfl ?_;simp only[zA])
    iterate 3 (refine im rfl rfl ?_;simp only[zA])
    apply eQ rfl rfl;(intro hb;intro W hW;have k2:=TB W hW;go_simp;with_reducible rfl);simp only[zA]
    iterate 3 (refine im rfl rfl ?_;simp only[zA])
    apply eQ rfl rfl;(intro hb;intro W hW;have k1:=Rv W hW;go_simp;with_reducible rfl);simp only[zA]
    iterate 2 (refine im rfl rfl ?_;simp only[zA])
    (first | refine bC rfl rfl ?_ | (refine bU rfl ?_));simp only[zA]
    intro W hW;have ew:=zh (aa.trans b_.out hW);clear hW Rv TB;cases hg:(decide (0<dv)&&(dw==dv-1))
    ·rw[Bool.and_eq_false_iff,decide_eq_false_iff_not,beq_eq_false_iff_ne]at hg;have Hg:=zh hg;clear hg;go_wp2;go_roundw
     case rel=>
      refine⟨k+1,by omega,by first | rfl | go_num,ew.out,fun j f hj hf=>?_⟩
      by_cases e0:j<k
      ·exact q9.out j f e0 hf
      ·obtain rfl:j=k:=by omega
       rw[He.out]at hf;cases hf;rw[Hx.out,Int.toNat_natCast,<- Hdv.out,<- Hdw.out];rintro⟨q1,q2⟩;rcases Hg.out with h9 | h9
       ·exact h9 q1
       ·exact h9 q2
     case measure=>simp[intOf];omega
    ·rw[Bool.and_eq_true,decide_eq_true_eq,beq_iff_eq]at hg
     have hR:fX n r v=(k:Int):=RO kw.out He.out (by rw[Hx.out,Int.toNat_natCast,<- Hdv.out,<- Hdw.out];exact hg) q9.out
     have HR:=zh hR;clear hg hR;go_wp2;go_ret
     exact⟨by rw[HR.out];rfl,aa.trans Hs.out ew.out⟩
  ·obtain rfl:k=es.length:=by omega
   have hR:fX n r v = -1:=OZ kw.out q9.out;have HR:=zh hR;clear hR;go_wp2;go_ret
   exact⟨by rw[HR.out];rfl,aa.trans Hs.out b_.out⟩
theorem AE (n:ak) (r k:Nat):(List.range (k+1)).map (fX n r)=(List.range k).map (fX n r)++[fX n r k]:=by rw[List.range_succ,List.map_append];rfl
theorem fw {n:ak} (hn:al n=true) {r:Nat} (hr:r<n.ends.length):(bS n r).length=n.ends.length:=kQ hn _ _ _ (BI.start hr)
theorem G6 (ve vi vn:Value) (n:ak) (r:Nat) (w:World) (h:aQ w ve vi vn n) (hn:al n=true) (hr:r<n.ends.length):
  Calls Tryz.prog 168 #[.agg #[ve,vi,vn],.int .i64 r] w fun e w'=>∃u,e=.returned u/\Own w' w.heap.size u (oe n r)/\Below w.heap.size w w':=by
 have lN:=(aE hn).2;have Hn:=zh hn
 obtain⟨w0,A,c,A2,c2,A3,c3,rfl,rfl,rfl,eV,hm,fJ,fB,HA,bK,aT,H,dL,dR,dU⟩:=zB h;clear h
 clear hn;unfold oe
 go_enter Tryz.func168,Tryz.ntmps168
 go_upto_region 1 with(fail);rw[<- bK.out];go_wp2_with fail;refine(i9 _ _ _ n r w0 H.out Hn.out hr).mono ?_;rintro e w1 ⟨uF,rfl,qd,ay⟩;have cY:aa w0 w1:=ay;obtain⟨AF,cF,rfl,-,-,-⟩:=id qd.ints;rw[fw Hn.out hr]at qd;have HoF:=zh qd.ints;have dC:=zh cY;clear qd ay;rw[fw Hn.out hr];go_wp2
 go_loopw [6,14] (fun u i wr=>∃k:Nat,k<=n.ends.length/\i=.int .i64 k/\Own wr w1.heap.size u ((List.range k).map (fX n r))/\aa w1 wr) (fun _ i _=>n.ends.length-(intOf i).toNat)
 case atStart=>exact⟨0,Nat.zero_le _,rfl,by simpa using bH _ w1.heap.size,ad _⟩
 case round=>
  obtain⟨k,hk,rfl,ho,bA⟩:=hrel;have Ho:=zh ho;have Hs:=zh bA;clear ho;have kh:=aa.trans dC.out Hs.out;have lE:=zh kh;clear cY
  by_cases hlt:k<n.ends.length
  ·have m3:IntKind.i64.wrap ((k:Int)+1)=(k:Int)+1:=aF _ (by omega) (by omega)
   have cJ:Hid (((List.range k).map (fX n r)).length+1<=17592186044416):=by show _<=_;simp;omega
   have jm:=zh (AE n r k);go_wp2_with fail;refine(B_ _ _ _ n r k cF AF wr (H.out.keep lE.out.below) Hn.out hr hlt (HoF.out.keep Hs.out.below)).mono ?_;rintro e w2 ⟨rfl,bj⟩;have b_:=zh (aa.after lE.out bj);have acA:=zh (aa.after Hs.out bj);have eX:=zh (Own.since Ho.out bj);obtain⟨y,hy⟩:∃y,y=fX n r k:=⟨_,rfl⟩
   rw[<- hy]at jm ⊢;have Hy:=zh hy;clear bj bA hy kh
   go_wp2_with (at_builtin;refine dy rfl _ _ rfl rfl (eX.out.since (ag _ (ad _))) w2.heap.size y rfl (by simp[go_sem]) cJ.out (ag _ acA.out) ?_;intro g cc w3 eH hZ)
   have i8:=zh eH;have ew:Hid (aa w1 w3):=hZ;clear eH hZ;go_wp2;go_roundw
   case rel=>exact⟨k+1,by omega,by first | rfl | go_num,by rw[jm.out];have:=i8.out;simpa using this,ew.out⟩
   case measure=>simp[intOf];omega
  ·obtain rfl:k=n.ends.length:=by omega
   clear hk hlt;go_wp2;go_ret;exact⟨_,rfl,Ho.out.mono (Nat.le_trans aT.out.size dC.out.below.size),aa.trans aT.out lE.out⟩
theorem sT {n:ak} {r x:Nat} (hx:x<n.ends.length):(oe n r)[x]?=some (fX n r x):=by
 unfold oe
 rw[List.getElem?_map,List.getElem?_range hx];rfl
theorem x7 {p:Nat->Bool} (k:Nat):(List.range (k+1)).countP p=(List.range k).countP p+(if p k=true then 1 else 0):=by
 rw[List.range_succ,List.countP_append,List.countP_singleton]
theorem uV (ve vi vn:Value) (n:ak) (r v cP:Nat) (AP:Option Addr) (w:World) (h:aQ w ve vi vn n) (hn:al n=true) (hr:r<n.ends.length) (hv:v<n.ends.length) (hP:aY w (.slice AP n.ends.length cP) (oe n r)):
  Calls Tryz.prog 169 #[.agg #[ve,vi,vn],.slice AP n.ends.length cP,.int .i64 v] w fun e w'=>e=.returned (.int .i64 ((jK n.ends.length (qs n r) (mx n r) v:Nat):Int))/\Below w.heap.size w w':=by
 have lN:=aE hn;have hT:=trR hn hr;have HT:=zh hT;have Hn:=zh hn;have HP:=zh hP
 obtain⟨bP,oP,rfl,fj⟩:∃b off,AP=some ⟨b,off,none⟩/\∀x,x<n.ends.length->∀W,aa w W->W.cell? ⟨b,off+x,none⟩=some (.int .i64 (fX n r x)):=by
  obtain⟨A',c',e,_,_,hA⟩:=hP;rw[show(oe n r).length=n.ends.length by simp[oe]]at e
  cases e;obtain⟨b,off,e,-⟩:=hA 0 _ (sT (show 0<n.ends.length by omega))
  refine⟨b,off,e,fun x hx W hW=>?_⟩
  obtain⟨b',oY,e',hc⟩:=hA x _ (sT hx);rw[e]at e';cases e';exact ae hc W hW
 have HC:=zh fj;have kz:=lN.1;have np:=lN.2;clear hn hP fj hT lN
 obtain⟨w0,A,c,A2,c2,A3,c3,rfl,rfl,rfl,eV,hm,fJ,fB,HA,bK,aT,H,dL,dR,dU⟩:=zB h;clear h
 go_enter Tryz.func169,Tryz.ntmps169
 go_upto_region 2 with(fail);rw[<- bK.out];have bB:aa w0 w0:=ad _;obtain⟨C,hC⟩:∃C:Nat->Nat,C=fun k=>(List.range k).countP fun w=>oL (qs n r) (mx n r) w v:=⟨_,rfl⟩
 have HCd:=zh hC
 have hCb:∀k,C k<=k:=fun k=>by rw[hC];exact Nat.le_trans List.countP_le_length (by simp)
 have HCb:=zh hCb
 have hC0:C 0=0:=by rw[hC];rfl
 have HC0:=zh hC0;clear hC hCb hC0;go_wp2
 go_loopw [7,12] (fun tc ti wr=>∃k:Nat,k<=n.ends.length/\ti=.int .i64 k/\tc=.int .i64 ((C k:Nat):Int)/\aa w0 wr) (fun _ ti _=>n.ends.length-(intOf ti).toNat)
 case atStart=>exact⟨0,Nat.zero_le _,rfl,by rw[HC0.out];rfl,bB⟩
 case round=>
  obtain⟨k,hk,rfl,rfl,bA⟩:=hrel;have Hs:=zh bA;clear bA bB;obtain⟨ck,Rc⟩:∃z,z=C k:=⟨_,rfl⟩
  have Hck:=zh Rc
  have ad1:ck<=k:=by rw[Rc];exact HCb.out k
  rw[<- Rc];clear Rc
  by_cases hlt:k<n.ends.length
  ·have m3:IntKind.i64.wrap ((k:Int)+1)=(k:Int)+1:=aF _ (by omega) (by omega)
   have m4:IntKind.i64.wrap ((ck:Int)+1)=((ck+1:Nat):Int):=by rw[aF _ (by omega) (by omega)];omega
   obtain⟨ck1,DU⟩:∃z,z=ck+1:=⟨_,rfl⟩
   rw[<- DU]at m4;have acB:=zh DU;clear DU;obtain⟨wo,rfl⟩:∃z,z=wr:=⟨_,rfl⟩
   go_wp2
   go_loopw [7,9] (fun tc tx wr=>∃x:Nat,x<n.ends.length/\tx=.int .i64 x/\tc=.int .i64 (ck:Int)/\oL (qs n r) (mx n r) k v=oL (qs n r) (mx n r) x v/\aa w0 wr) (fun _ tx _=>(qs n r (intOf tx).toNat).toNat)
   case atStart=>exact⟨k,hlt,rfl,rfl,rfl,Hs.out⟩
   case round=>
    obtain⟨x,hx,rfl,rfl,ha,d_⟩:=hrel;have Ha:=zh ha;have b_:=zh d_;clear ha d_;have vS:aa w wr:=aa.trans aT.out b_.out;have cx:=HC.out x hx wr vS;obtain⟨tw,VK⟩:∃z,z=fX n r x:=⟨_,rfl⟩
    rw[<- VK]at cx;have Htw:=zh VK;clear VK
    by_cases qR:x=v
    ·have e0:((x:Int)=(v:Int))=True:=by simp[qR]
     have e0b:((x:Int)==(v:Int))=true:=by simp[qR]
     have hCn:C (k+1)=ck1:=by
      rw[HCd.out];show(List.range (k+1)).countP _=_
      rw[x7,Ha.out,qR,jD HT.out hv,if_pos rfl,acB.out,Hck.out,HCd.out]
     have HCn:=zh hCn;clear hCn cx;go_wp2;go_roundw
     case rel=>exact⟨k+1,by omega,by first | rfl | go_num,by first | (rw[HCn.out];done) | (rw[HCn.out];go_num),b_.out⟩
     case measure=>simp[intOf];omega
    ·have e0:((x:Int)=(v:Int))=False:=by simp;omega
     have e0b:((x:Int)==(v:Int))=false:=beq_eq_false_iff_ne.2 (by omega)
     by_cases lP:tw<0
     ·have iA:oL (qs n r) (mx n r) x v=false:=by
       rw[ie HT.out hx]
       have:mx n r x=none:=by unfold mx;rw[if_neg (by rw[<- Htw.out];omega)]
       rw[this];simp[qR]
      have hCn:C (k+1)=ck:=by
       rw[HCd.out];show(List.range (k+1)).countP _=_
       rw[x7,Ha.out,iA,if_neg (by simp),Hck.out,HCd.out];rfl
      have HCn:=zh hCn;clear hCn iA;go_wp2;go_roundw
      case rel=>exact⟨k+1,by omega,by first | rfl | go_num,by first | (rw[HCn.out];done) | (rw[HCn.out];go_num),b_.out⟩
      case measure=>simp[intOf];omega
     ·obtain⟨q,rfl⟩:=Int.eq_ofNat_of_zero_le (show 0<=tw by omega)
      have htq:=Htw.out;obtain⟨s1,s2,s3,s4,s5,s6⟩:=fi Hn.out hr (r:=r) (v:=x) (by omega);rw[<- htq]at s2 s4 s6;rw[Int.toNat_natCast]at s6;obtain⟨es,bW⟩:=aM n.ends x hx;rw[au bW]at s6;obtain⟨e,he⟩:=aM es q s6;have Ql:=(bX Hn.out bW).2 e (List.mem_of_getElem? he);obtain⟨y,hy⟩:=Int.eq_ofNat_of_zero_le Ql.1
      have x8:eB n x (q:Int)=y:=by unfold eB;rw[au bW,Int.toNat_natCast,au he,hy];exact Int.toNat_natCast y
      rw[x8]at s2 s4
      have x6:mx n r x=some y:=by unfold mx;rw[<- htq,if_pos (by omega),x8]
      have aaA:oL (qs n r) (mx n r) x v=oL (qs n r) (mx n r) y v:=by
       rw[ie HT.out hx,x6];simp[qR]
      have iX:=(HT.out.some_ x y hx x6).2;have x_:=HT.out.pos y s2;obtain⟨bE,oE,cE,uE,hAE,-,dS,dB⟩:=gy H.out.es bW;obtain⟨A9,y9,rfl,dV,d8,BX⟩:=dB;obtain⟨g1,o1,rfl,t1,t2⟩:=BX q e he;rw[hy]at t1;have d0:=dL wr b_.out;have d1:=ae dS wr b_.out;have d2:=ae t1 wr b_.out;cases hAE;have rc:=zh (And.intro (Ha.out.trans aaA) (And.intro s2 (And.intro iX x_)));unfold maxLen at d8;clear s1 s2 s3 s4 s5 bW he Ql hy x8 x6 aaA iX x_ dS t1 t2 BX htq vS;go_upto_region 6 with(fail)
      go_region
      clear d0 d1 d2 cx;go_wp2;go_roundw
      case rel=>exact⟨y,rc.out.2.1,by first | rfl | go_num,by first | rfl | go_num,rc.out.1,aj b_.out⟩
      case measure=>have h9:=rc.out.2.2;simp[intOf];omega
  ·obtain rfl:k=n.ends.length:=by omega
   have hR:((ck:Nat):Int)=((jK n.ends.length (qs n r) (mx n r) v:Nat):Int):=by
    rw[Hck.out,HCd.out];rfl
   have HR:=zh hR;clear hR;go_wp2;go_ret
   exact⟨by rw[<- HR.out];first | rfl | simp,aa.trans aT.out Hs.out⟩
def Xk (n:ak) (l:List Int):Prop:=∀v,v<n.ends.length->(0<=l.getD v 0/\l.getD v 0<=2)/\∀e∈n.ends.getD v [],l.getD e.1.toNat 0≠l.getD v 0
def kM (N:Nat) (l t:List Int) (v:Nat):Prop:=(∃i,i<=v/\i<N/\(∀j,j<i->t.getD j 0=l.getD j 0)/\l.getD i 0<t.getD i 0)\/(N<=v/\∀j,j<N->t.getD j 0=l.getD j 0)
theorem kM.start {N:Nat} {t:List Int} (h0:0<N) (h:0<=t.getD 0 0):kM N (List.replicate N (-1)) t 0:=by
 refine .inl ⟨0,Nat.le_refl _,h0,fun j hj=>by omega,?_⟩
 simp[zDd,List.getElem?_replicate,h0]
 rw[zDd]at h;omega
theorem getD_set_ne {l:List Int} {v j:Nat} {x:Int} (h:j≠v):(l.set v x).getD j 0=l.getD j 0:=by
 rw[zDd,List.getElem?_set_ne (Ne.symm h),<- zDd]
theorem uW {l:List Int} {v:Nat} {x:Int} (h:v<l.length):(l.set v x).getD v 0=x:=by
 rw[zDd,List.getElem?_set_self h];rfl
theorem kM.back {N:Nat} {l t:List Int} {v:Nat} (h:kM N l t v) (hv:v<N) (hm:t.getD v 0<=l.getD v 0):v≠0/\kM N (l.set v (-1)) t (v-1):=by
 rcases h with⟨i,h1,h2,h3,h4⟩ | ⟨h1,-⟩
 ·have gM:i≠v:=fun e=>by subst e;omega
  refine⟨by omega,.inl ⟨i,by omega,h2,fun j hj=>?_,?_⟩⟩
  ·rw[getD_set_ne (by omega)];exact h3 j hj
  ·rw[getD_set_ne gM];exact h4
 ·omega
theorem kM.go {N:Nat} {l t:List Int} {v:Nat} (h:kM N l t v) (hv:v<N) (hl:l.length=N):kM N (l.set v (l.getD v 0+1)) t v\/(∀j,j<=v->t.getD j 0=(l.set v (l.getD v 0+1)).getD j 0):=by
 rcases h with⟨i,h1,h2,h3,h4⟩ | ⟨h1,-⟩
 ·by_cases e:i=v
  ·subst e
   by_cases e2:t.getD i 0=l.getD i 0+1
   ·right
    intro j hj;rcases Nat.lt_or_eq_of_le hj with hj | hj
    ·rw[getD_set_ne (by omega)];exact h3 j hj
    ·subst hj;rw[uW (by omega)];exact e2
   ·left
    refine .inl ⟨i,Nat.le_refl _,h2,fun j hj=>?_,?_⟩
    ·rw[getD_set_ne (by omega)];exact h3 j hj
    ·rw[uW (by omega)];omega
  ·left
   refine .inl ⟨i,h1,h2,fun j hj=>?_,?_⟩
   ·rw[getD_set_ne (by omega)];exact h3 j hj
   ·rw[getD_set_ne e];exact h4
 ·omega
theorem kM.up {N:Nat} {l t:List Int} {v:Nat} (h:kM N l t v) (hv:v<N):kM N l t (v+1):=by
 rcases h with⟨i,h1,h2,h3,h4⟩ | ⟨h1,h2⟩
 ·exact .inl ⟨i,by omega,h2,h3,h4⟩
 ·omega
theorem kM.same {N:Nat} {l t:List Int} {v:Nat} (h:∀j,j<=v->t.getD j 0=l.getD j 0) (hl:v+1<N->l.getD (v+1) 0<t.getD (v+1) 0):kM N l t (v+1):=by
 by_cases e:v+1<N
 ·exact .inl ⟨v+1,Nat.le_refl _,e,fun j hj=>h j (by omega),hl e⟩
 ·exact .inr ⟨by omega,fun j hj=>h j (by omega)⟩
structure rD (n:ak) (l:List Int) (v:Nat):Prop where
 st:St n.ends.length 2 l v
 aey:∀a,a<v->a<n.ends.length->∀e∈n.ends.getD a [],e.1.toNat<v->l.getD e.1.toNat 0≠l.getD a 0
theorem pI {l:List Int} {es:List (Int×Int)} {x:Int}:x∈bt l es↔∃e∈es,l.getD e.1.toNat 0=x:=by
 unfold bt;rw[List.mem_map]
theorem ya {n:ak} {l:List Int} {v:Nat}:fQ n l v=true↔∀e∈n.ends.getD v [],l.getD e.1.toNat 0≠l.getD v 0:=by
 unfold fQ;rw[Bool.not_eq_true',List.contains_eq_mem,decide_eq_false_iff_not,pI];constructor
 ·intro h e he hc;exact h ⟨e,he,hc⟩
 ·rintro h ⟨e,he,hc⟩;exact h e he hc
theorem tS {n:ak} (hn:al n=true) {a:Nat} {e:Int×Int} (he:e∈n.ends.getD a []):∃f∈n.ends.getD e.1.toNat [],f.1.toNat=a/\e.1.toNat<n.ends.length/\a<n.ends.length:=by
 obtain⟨i,hi⟩:=List.getElem?_of_mem he;have h:=df hn (v:=a) (i:=i) (f:=e) hi;refine⟨_,List.mem_of_getElem? h.2.2.2.2,by simp,by omega,h.1⟩
theorem rD.back {n:ak} {l:List Int} {v:Nat} (h:rD n l v) (h0:v≠0):rD n (l.set v (-1)) (v-1):=by
 refine⟨h.st.back h0,fun a ha Qm e he Mf=>?_⟩
 rw[getD_set_ne (by omega),getD_set_ne (by omega)];exact h.aey a (by omega) Qm e he (by omega)
theorem rD.stay {n:ak} {l:List Int} {v:Nat} (h:rD n l v) (hv:v<n.ends.length) (hm:l.getD v 0≠2):rD n (l.set v (l.getD v 0+1)) v:=by
 refine⟨(h.st.up hv hm).stay,fun a ha Qm e he Mf=>?_⟩
 rw[getD_set_ne (by omega),getD_set_ne (by omega)];exact h.aey a ha Qm e he Mf
theorem rD.on {n:ak} (hn:al n=true) {l:List Int} {v:Nat} (h:rD n l v) (hv:v<n.ends.length) (hm:l.getD v 0≠2) (hg:fQ n (l.set v (l.getD v 0+1)) v=true):rD n (l.set v (l.getD v 0+1)) (v+1):=by
 refine⟨(h.st.up hv hm).on (by omega),fun a ha Qm e he Mf=>?_⟩
 have hg:=ya.1 hg
 by_cases e1:a=v
 ·subst e1;exact hg e he
 ·by_cases e2:e.1.toNat=v
  ·obtain⟨f,hf,h1,-,-⟩:=tS hn he
   have:=hg f (by rw[<- e2];exact hf)
   rw[h1]at this;rw[e2];exact Ne.symm this
  ·rw[getD_set_ne e2,getD_set_ne e1];exact h.aey a (by omega) Qm e he (by omega)
theorem sW {n:ak} (hn:al n=true) (t:List Int) (ht:Xk n t):∀(f:Nat) (l:List Int) (v s:Nat),rD n l v->v<=n.ends.length->kM n.ends.length l t v->gh n f l v s≠some none
 | 0,l,v,s,_,_,_=>by simp[gh]
 | f+1,l,v,s,h,hv,hL=>by
  have hlen:=h.st.len;unfold gh
  by_cases h1:(l.length:Int)<=(v:Int)
  ·rw[if_pos h1];simp
  ·rw[if_neg h1,if_neg (by omega)];rw[Int.toNat_natCast];have my:v<n.ends.length:=by omega
   by_cases h2:l.getD v 0=2
   ·rw[if_pos h2]
    obtain⟨h0,hL2⟩:=hL.back my (by rw[h2];exact(ht v my).1.2)
    rw[show(v:Int)-1=((v-1:Nat):Int)by omega]
    exact sW hn t ht f _ _ s (h.back h0) (by omega) hL2
   ·rw[if_neg h2]
    by_cases h3:s=200000
    ·rw[if_pos h3];simp
    ·rw[if_neg h3];cases hg:fQ n (l.set v (l.getD v 0+1)) v
     ·rw[if_neg (by simp)];refine sW hn t ht f _ _ _ (h.stay my h2) hv ?_;rcases hL.go my hlen with h4 | h4
      ·exact h4
      ·exfalso
       rw[Bool.eq_false_iff]at hg;refine hg (ya.2 fun e he hc=>?_)
       have hti:=(ht v my).2 e he;obtain⟨-,-,-,LX,-⟩:=tS hn he;have ox:=h.st.up my h2;rcases Nat.lt_or_ge v e.1.toNat with h5 | h5
       ·have h6:=ox.hi _ h5 LX;have h7:=(ox.lo v (Nat.le_refl _) my).1;omega
       ·rw[<- h4 _ h5,<- h4 _ (Nat.le_refl _)]at hc;exact hti hc
     ·rw[if_pos rfl];rw[show(v:Int)+1=((v+1:Nat):Int)by omega]
      refine sW hn t ht f _ _ _ (h.on hn my h2 hg) (by omega) ?_;rcases hL.go my hlen with h4 | h4
      ·exact h4.up my
      ·refine kM.same h4 fun hlt=>?_
       have ox:=h.st.up my h2;have h6:=ox.hi (v+1) (by omega) hlt;have h7:=(ht (v+1) hlt).1.1;omega
theorem wd {n:ak} (hn:al n=true):∀(f:Nat) (l:List Int) (v s:Nat) (r:List Int),rD n l v->v<=n.ends.length->gh n f l v s=some (some r)->Xk n r/\r.length=n.ends.length
 | 0,l,v,s,r,_,_,hr=>by simp[gh]at hr
 | f+1,l,v,s,r,h,hv,hr=>by
  have hlen:=h.st.len;unfold gh at hr
  by_cases h1:(l.length:Int)<=(v:Int)
  ·rw[if_pos h1]at hr;cases hr;refine⟨fun a ha=>⟨h.st.lo a (by omega) ha,fun e he=>?_⟩,hlen⟩
   obtain⟨-,-,-,LX,-⟩:=tS hn he;exact h.aey a (by omega) ha e he (by omega)
  ·rw[if_neg h1,if_neg (by omega)]at hr;rw[Int.toNat_natCast]at hr;have my:v<n.ends.length:=by omega
   by_cases h2:l.getD v 0=2
   ·rw[if_pos h2]at hr
    by_cases h0:v=0
    ·subst h0
     cases f with
     | zero=>simp[gh]at hr
     | succ f=>
      unfold gh at hr;rw[if_neg (by omega),if_pos (by omega)]at hr;cases hr
    ·rw[show(v:Int)-1=((v-1:Nat):Int)by omega]at hr
     exact wd hn f _ _ s r (h.back h0) (by omega) hr
   ·rw[if_neg h2]at hr
    by_cases h3:s=200000
    ·rw[if_pos h3]at hr;cases hr
    ·rw[if_neg h3]at hr;cases hg:fQ n (l.set v (l.getD v 0+1)) v
     ·rw[hg,if_neg (by simp)]at hr;exact wd hn f _ _ _ r (h.stay my h2) hv hr
     ·rw[hg,if_pos rfl,show(v:Int)+1=((v+1:Nat):Int)by omega]at hr
      exact wd hn f _ _ _ r (h.on hn my h2 hg) (by omega) hr
theorem rD.start (n:ak):rD n (List.replicate n.ends.length (-1)) 0:=⟨St.start _ _ (by omega),fun a ha=>by omega⟩
theorem Ew {n:ak} (hn:al n=true) (h0:0<n.ends.length) {t:List Int} (ht:Xk n t):fE n≠some none:=by
 unfold fE
 have:=sW hn t ht 400002 _ 0 0 (rD.start n) (Nat.zero_le _) (kM.start h0 (ht 0 h0).1.1)
 exact this
theorem G7 {n:ak} (hn:al n=true) {r:List Int} (h:fE n=some (some r)):Xk n r/\r.length=n.ends.length:=by
 unfold fE at h;exact wd hn 400002 _ 0 0 r (rD.start n) (Nat.zero_le _) h
structure ad2 (n:ak) (acc:List Int->Nat->Bool) (aU:Int) (l:List Int) (v:Nat):Prop where
 st:St n.ends.length aU l v
 aey:∀a,a<n.ends.length->a<v->(∀e∈n.ends.getD a [],e.1.toNat<v)->acc l a=true
def dQ (n:ak) (s:Int) (ls:List Int):Prop:=∀v,v<n.ends.length->fR n s ls v=true
theorem iv {n:ak} {s:Int} {ls:List Int}:dY n s ls=true↔al n=true/\(1<=s/\s<=5)/\ls.length=n.ends.length/\∀x∈ls,0<=x/\x<=999999999999:=by
 unfold dY;rw[Bool.and_eq_true,Bool.and_eq_true,Bool.and_eq_true,ap,beq_iff_eq];constructor
 ·rintro⟨⟨⟨h1,h2⟩,h3⟩,h4⟩
  exact⟨h1,h2,by omega,fun x hx=>by
   unfold sw at h4
   have:=List.all_eq_true.1 h4 x hx
   exact ap.1 this⟩
 ·rintro⟨h1,h2,h3,h4⟩;refine⟨⟨⟨h1,h2⟩,by omega⟩,?_⟩
  unfold sw;exact List.all_eq_true.2 fun x hx=>ap.2 (h4 x hx)
theorem Jw {n:ak} {s:Int} {ls:List Int} (h:dY n s ls=true) {v:Nat} (hv:v<n.ends.length):0<=ls.getD v 0/\ls.getD v 0<=999999999999:=by
 obtain⟨-,-,h3,h4⟩:=iv.1 h;rw[zDd,List.getElem?_eq_getElem (by omega)];exact h4 _ (List.getElem_mem _)
theorem O0 {n:ak} {ls:List Int} {v w:Nat} (h:(w:Int)∈eh n (v:Int)):ls.getD w 0∈bt ls (n.ends.getD v []):=by
 obtain⟨j,q,h1⟩:=nC.1 h;refine pI.2 ⟨_,List.mem_of_getElem? h1,by simp⟩
theorem RP {n:ak} (hn:al n=true) {r:Nat} (hr:r<n.ends.length) (P:Nat->Prop) (h0:P r) (hs:∀a b,a<n.ends.length->b<n.ends.length->(b:Int)∈eh n (a:Int)->P a->P b) {w:Nat} (h:f6 n r w):P w:=by
 induction h with
 | refl=>exact h0
 | step h1 h2 ih=>exact hs _ _ (mg hn hr h1) (mg hn hr (h1.step h2)) h2 ih
theorem RQ {n:ak} {ls:List Int} (hl:dY n 1 ls=true) (h:dQ n 1 ls):ll n=true:=by
 have hn:=(iv.1 hl).1
 have aaB:∀v,v<n.ends.length->(0<=ls.getD v 0/\ls.getD v 0<=1)/\∀w:Nat,(w:Int)∈eh n (v:Int)->ls.getD w 0=1-ls.getD v 0:=fun v hv=>by
  have h1:=h v hv
  unfold fR gX at h1
  rw[if_pos rfl,Bool.and_eq_true,decide_eq_true_eq,Bool.not_eq_true',List.any_eq_false]at h1;refine⟨⟨(Jw hl hv).1,h1.1⟩,fun w hw=>?_⟩
  have:=h1.2 _ (O0 hw)
  simpa using this
 rw[pW hn,List.all_eq_true];intro v hv;have my:=List.mem_range.1 hv;rw[Bool.not_eq_true',List.any_eq_false];intro x hx hc;have sk:=nB hn (cur:=(v:Int)) (by omega) x hx;obtain⟨w,rfl⟩:=Int.eq_ofNat_of_zero_le sk.1;have rC:w<n.ends.length:=by omega
 unfold lk at hc;rw[Int.toNat_natCast,fP rC]at hc;have hc:=eq_of_beq hc;unfold f_ at hc;have hvw:ai n v=ai n w:=fk hn my (f6.refl.step hx);rw[<- hvw]at hc;have hr:=cM hn my;have hd:=qc hn hr
 have rJ:∀(f x:Nat),f6 n (ai n v) x->((bS n (ai n v)).getD x 0).toNat<=f->ls.getD x 0%2=(ls.getD (ai n v) 0+(bS n (ai n v)).getD x 0)%2:=by
  intro f
  induction f with
  | zero=>
   intro x hx hf
   by_cases e:x=ai n v
   ·subst e;have:=hd.zero;rw[this];simp
   ·obtain⟨y,h1,h2,h3⟩:=hd.par x hx e
    have:=hd.pos y h1
    have:=hd.pos x hx
    omega
  | succ f ih=>
   intro x hx hf
   by_cases e:x=ai n v
   ·subst e;have:=hd.zero;rw[this];simp
   ·obtain⟨y,h1,h2,h3⟩:=hd.par x hx e;have h4:=hd.pos y h1;have h5:=ih y h1 (by omega);have h6:=(aaB y (mg hn hr h1)).2 x h2;omega
 have h1:=(bu hn my).1.symm hn my;have h2:=rJ _ v h1 (Nat.le_refl _);have h3:=rJ _ w (h1.step hx) (Nat.le_refl _);have h4:=(aaB v my).2 w hx;omega
theorem Le {n:ak} {ls:List Int} (hl:dY n 2 ls=true) (h:dQ n 2 ls):Xk n ls:=by
 intro v hv;have h1:=h v hv
 unfold fR gX at h1
 rw[if_neg (by decide),if_pos rfl,Bool.and_eq_true,decide_eq_true_eq,Bool.not_eq_true']at h1;refine⟨⟨(Jw hl hv).1,h1.1⟩,fun e he hc=>?_⟩
 have h2:=h1.2;unfold iB at h2;rw[List.contains_eq_mem,decide_eq_false_iff_not]at h2;exact h2 (pI.2 ⟨e,he,hc⟩)
theorem Lf {n:ak} (hn:al n=true) (h0:n.ids.length≠0) {a b:Nat} (ha:a<n.ends.length) (hb:b<n.ends.length) (h:n.ids.getD a 0=n.ids.getD b 0):a=b:=by
 have hi:=(m_.1 hn).2.1;rw[<- vL]at hi;unfold pc at hi;rw[Bool.and_eq_true,List.all_eq_true,Bool.or_eq_true,beq_iff_eq,beq_iff_eq]at hi;have hl:n.ids.length=n.ends.length:=by omega
 have hnd:n.ids.Nodup:=(ug n.ids).1 fun i yC=>by
  have:=hi.1 i (List.mem_range.2 yC)
  rw[Bool.and_eq_true,Bool.not_eq_true',List.contains_eq_mem,decide_eq_false_iff_not,gx yC]at this;exact this.2
 rw[gx (by omega),gx (by omega)]at h;rcases Nat.lt_trichotomy a b with c | c | c
 ·exact absurd h (List.pairwise_iff_getElem.1 hnd a b (by omega) (by omega) c)
 ·exact c
 ·exact absurd h.symm (List.pairwise_iff_getElem.1 hnd b a (by omega) (by omega) c)
theorem getD_in {α:Type} {l:List α} {i:Nat} {d:α} (h:i<l.length):l.getD i d∈l/\l[i]?=some (l.getD i d):=by
 have e:l.getD i d=l[i]:=by rw[zDd,List.getElem?_eq_getElem h];rfl
 rw[e];exact⟨List.getElem_mem h,List.getElem?_eq_getElem h⟩
theorem nQ {n:ak} {v w:Nat}:(w:Int)∈eh n (v:Int)↔∃i,i<(n.ends.getD v []).length/\((n.ends.getD v []).getD i (0,0)).1=(w:Int):=by
 constructor
 ·intro h;obtain⟨j,q,h1⟩:=nC.1 h
  exact⟨j,an h1,by rw[zDd,h1];rfl⟩
 ·rintro⟨i,h1,h2⟩;refine nC.2 ⟨i,((n.ends.getD v []).getD i (0,0)).2,?_⟩;rw[<- h2];exact(getD_in h1).2
structure pJ (n:ak) (I D:Nat->Int):Prop where
 same:∀v w:Nat,v<n.ends.length->(w:Int)∈eh n (v:Int)->I w=I v
 zero:∀v,v<n.ends.length->D v=0->n.ids.getD v 0=I v
 aeS:∀v,v<n.ends.length->0<D v->∃w:Nat,(w:Int)∈eh n (v:Int)/\D w=D v-1
 pos:∀v,v<n.ends.length->0<=D v
theorem pJ.root {n:ak} (hn:al n=true) {I D:Nat->Int} (h:pJ n I D):∀(f v:Nat),v<n.ends.length->(D v).toNat<=f->∃r,r<n.ends.length/\f6 n v r/\D r=0
 | f,v,hv,hf=>by
  have h0:=h.pos v hv
  by_cases e:D v=0
  ·exact⟨v,hv,f6.refl,e⟩
  ·obtain⟨w,h1,h2⟩:=h.aeS v hv (by omega);have hw:w<n.ends.length:=mg hn hv (f6.refl.step h1)
   cases f with
   | zero=>omega
   | succ f=>
    obtain⟨r,h3,h4,h5⟩:=h.root hn f w hw (by omega);exact⟨r,h3,(f6.refl.step h1).trans h4,h5⟩
theorem pJ.ids {n:ak} (hn:al n=true) {I D:Nat->Int} (h:pJ n I D) {v w:Nat} (hv:v<n.ends.length) (hr:f6 n v w):I w=I v:=
 RP hn hv (fun x=>I x=I v) rfl (fun a b ha _ te ih=>(h.same a b ha te).trans ih) hr
theorem pJ.one {n:ak} (hn:al n=true) (h0:n.ids.length≠0) {I D:Nat->Int} (h:pJ n I D) {a b:Nat} (ha:a<n.ends.length) (hb:b<n.ends.length) (hr:f6 n a b) (da:D a=0) (db:D b=0):a=b:=
 Lf hn h0 ha hb (by rw[h.zero a ha da,h.zero b hb db,h.ids hn ha hr])
theorem Ex {n:ak} {ls:List Int} (hl:dY n 4 ls=true) (h:dQ n 4 ls):n.ids.length≠0/\pJ n (fun v=>ls.getD v 0/100) (fun v=>ls.getD v 0%100)/\∀v,v<n.ends.length->(n.aea.getD v 0=1↔ls.getD v 0%100=0):=by
 have hn:=(iv.1 hl).1;have hN:=(aE hn).1
 have hu:∀v,v<n.ends.length->n.ids.length≠0/\ka (n.ids.getD v 0) (n.aea.getD v 0) ls (ls.getD v 0) (n.ends.getD v [])=true:=fun v hv=>by
  have h1:=h v hv
  unfold fR gX at h1
  rw[if_neg (by decide),if_neg (by decide),if_neg (by decide),if_pos rfl,Bool.and_eq_true,decide_eq_true_eq]at h1;exact h1
 have vI:∀v,v<n.ends.length->(∀w:Nat,(w:Int)∈eh n (v:Int)->ls.getD w 0/100=ls.getD v 0/100)/\((ls.getD v 0%100=0/\n.ids.getD v 0=ls.getD v 0/100/\n.aea.getD v 0=1)\/(0<ls.getD v 0%100/\n.aea.getD v 0≠1/\∃w:Nat,(w:Int)∈eh n (v:Int)/\ls.getD w 0%100=ls.getD v 0%100-1)):=fun v hv=>by
  have h1:=(hu v hv).2;unfold ka at h1;rw[Bool.and_eq_true,List.all_eq_true,Bool.or_eq_true]at h1;refine⟨fun w hw=>?_,?_⟩
  ·obtain⟨i,h2,h3⟩:=nQ.1 hw
   have:=eq_of_beq (h1.1 i (List.mem_range.2 h2))
   unfold nm at this;rw[h3,Int.toNat_natCast]at this;exact this
  ·rcases h1.2 with h2 | h2
   ·rw[Bool.and_eq_true,Bool.and_eq_true]at h2;exact .inl ⟨eq_of_beq h2.1.1,eq_of_beq h2.1.2,eq_of_beq h2.2⟩
   ·rw[Bool.and_eq_true,Bool.and_eq_true,decide_eq_true_eq,List.any_eq_true,bne_iff_ne]at h2;obtain⟨⟨a,b⟩,i,hi,c⟩:=h2;have hi:=List.mem_range.1 hi;have lM:(n.ends.getD v []).getD i (0,0)∈n.ends.getD v []:=(getD_in hi).1;have hr:=ig hn lM;refine .inr ⟨a,b,((n.ends.getD v []).getD i (0,0)).1.toNat,nQ.2 ⟨i,hi,by omega⟩,eq_of_beq c⟩
 refine⟨(hu 0 (by omega)).1,⟨fun v w hv hw=>(vI v hv).1 w hw,fun v hv hz=>?_,fun v hv hp=>?_,fun v hv=>by show 0<=_%_;omega⟩,fun v hv=>?_⟩
 ·rcases(vI v hv).2 with a | a
  ·exact a.2.1
  ·have:=a.1;have hz:ls.getD v 0%100=0:=hz;omega
 ·rcases(vI v hv).2 with a | a
  ·have:=a.1;have hp:0<ls.getD v 0%100:=hp;omega
  ·exact a.2.2
 ·rcases(vI v hv).2 with a | a
  ·exact⟨fun _=>a.1,fun _=>a.2.2⟩
  ·exact⟨fun e=>absurd e a.2.1,fun e=>by omega⟩
theorem G8 {p:Nat->Bool} {N r:Nat} (hr:r<N) (h:∀w,w<N->(p w=true↔w=r)):((List.range N).filter p).length=1:=by
 have e:(List.range N).filter p=(List.range N).filter (fun w=>w==r):=List.filter_congr fun w hw=>by
  rw[Bool.eq_iff_iff,h w (List.mem_range.1 hw),beq_iff_eq]
 rw[e,<- List.countP_eq_length_filter];have h2:(List.range N).count r=1:=by rw[List.Nodup.count List.nodup_range,if_pos (List.mem_range.2 hr)]
 rw[<- h2];rfl
theorem O1 {n:ak} {ls:List Int} (hl:dY n 4 ls=true) (h:dQ n 4 ls):n.ids.length≠0/\eL n=true:=by
 have hn:=(iv.1 hl).1;obtain⟨h0,hI,eU⟩:=Ex hl h;refine⟨h0,?_⟩;unfold eL;rw[List.all_eq_true];intro v hv;have my:=List.mem_range.1 hv;obtain⟨r,hr,h1,h2⟩:=hI.root hn _ v my (Nat.le_refl _)
 unfold jy jT cS
 rw[beq_iff_eq];refine G8 hr fun w hw=>?_
 unfold jM;rw[Bool.and_eq_true,decide_eq_true_eq,decide_eq_true_eq,eU w hw];constructor
 ·rintro⟨a,b⟩
  have hvw:f6 n w v:=by
   have a1:=(bu hn hw).1;have a2:=(bu hn my).1.symm hn my;rw[a]at a1;exact a1.trans a2
  exact hI.one hn h0 hw hr (hvw.trans h1) b h2
 ·rintro rfl;exact⟨(fk hn my h1).symm,h2⟩
structure aaC (n:ak) (ls:List Int) (v:Nat):Prop where
 ids:n.ids.length≠0
 same:∀w:Nat,(w:Int)∈eh n (v:Int)->vT (ls.getD w 0)=vT (ls.getD v 0)
 sum:vt (ls.getD v 0)=jg ls (ls.getD v 0) (n.ends.getD v []) (n.ends.getD v []).length%2
 aeA:(kS (ls.getD v 0)=0/\tD (ls.getD v 0)=9/\n.ids.getD v 0=vT (ls.getD v 0)/\vt (ls.getD v 0)=0)\/(0<kS (ls.getD v 0)/\∃(i:Nat),i<(n.ends.getD v []).length/\(i:Int)=tD (ls.getD v 0)/\kS (nm ls ((n.ends.getD v []).getD i (0,0)))=kS (ls.getD v 0)-1)
theorem rE {n:ak} {ls:List Int} (h:dQ n 5 ls) {v:Nat} (hv:v<n.ends.length):aaC n ls v:=by
 have h1:=h v hv
 unfold fR gX at h1
 rw[if_neg (by decide),if_neg (by decide),if_neg (by decide),if_neg (by decide),Bool.and_eq_true,decide_eq_true_eq]at h1;obtain⟨h0,h1⟩:=h1
 unfold kJ qJ qI at h1
 rw[Bool.and_eq_true,Bool.and_eq_true,List.all_eq_true,Bool.or_eq_true,beq_iff_eq]at h1;obtain⟨⟨h1,h2⟩,h3⟩:=h1;refine⟨h0,fun w hw=>?_,h2,?_⟩
 ·obtain⟨i,h4,h5⟩:=nQ.1 hw
  have:=eq_of_beq (h1 i (List.mem_range.2 h4))
  unfold nm at this;rw[h5,Int.toNat_natCast]at this;exact this
 ·rcases h3 with h4 | h4
  ·rw[Bool.and_eq_true,Bool.and_eq_true,Bool.and_eq_true]at h4;exact .inl ⟨eq_of_beq h4.1.1.1,eq_of_beq h4.1.1.2,eq_of_beq h4.1.2,eq_of_beq h4.2⟩
  ·rw[Bool.and_eq_true,decide_eq_true_eq,List.any_eq_true]at h4;obtain⟨a,i,hi,c⟩:=h4;rw[Bool.and_eq_true]at c;exact .inr ⟨a,i,List.mem_range.1 hi,eq_of_beq c.1,eq_of_beq c.2⟩
theorem Lg (x:Int):0<=kS x/\kS x<100:=by unfold kS;omega
theorem Lh {n:ak} {ls:List Int} (hn:al n=true) (h:dQ n 5 ls):pJ n (fun v=>vT (ls.getD v 0)) (fun v=>kS (ls.getD v 0)):=by
 refine⟨fun v w hv hw=>(rE h hv).same w hw,fun v hv hz=>?_,fun v hv hp=>?_,fun v _=>(Lg _).1⟩
 ·have hz:kS (ls.getD v 0)=0:=hz;rcases(rE h hv).aeA with a | a
  ·exact a.2.2.1
  ·have:=a.1;omega
 ·have hp:0<kS (ls.getD v 0):=hp;rcases(rE h hv).aeA with a | ⟨-,i,h1,h2,h3⟩
  ·have:=a.1;omega
  ·have hr:=ig hn (getD_in (d:=(0,0)) h1).1;exact⟨((n.ends.getD v []).getD i (0,0)).1.toNat,nQ.2 ⟨i,h1,by omega⟩,h3⟩
def fx (ls:List Int) (v:Nat):Int:=kS (ls.getD v 0)
def iO (n:ak) (ls:List Int) (v:Nat):Option Nat:=if kS (ls.getD v 0)=0 then none else some (eB n v (tD (ls.getD v 0)))
theorem yc {n:ak} {ls:List Int} (hn:al n=true) (h:dQ n 5 ls) {v p:Nat} (hv:v<n.ends.length) (hp:iO n ls v=some p):∃i:Nat,i<(n.ends.getD v []).length/\(i:Int)=tD (ls.getD v 0)/\((n.ends.getD v []).getD i (0,0)).1=(p:Int)/\fx ls p+1=fx ls v/\p<n.ends.length:=by
 unfold iO at hp
 split at hp
 ·cases hp
 ·rename_i gM
  rcases(rE h hv).aeA with a | ⟨-,i,h1,h2,h3⟩
  ·exact absurd a.1 gM
  ·have hr:=ig hn (getD_in (d:=(0,0)) h1).1;unfold eB at hp;rw[<- h2,Int.toNat_natCast]at hp;have hp:=Option.some.inj hp;refine⟨i,h1,h2,by omega,?_,by omega⟩
   unfold fx;unfold nm at h3;rw[hp]at h3;omega
theorem Ey {n:ak} {ls:List Int} (hn:al n=true) (h:dQ n 5 ls):Tr n.ends.length (fx ls) (iO n ls):=by
 refine⟨fun v p hv hp=>?_,fun v _=>(Lg _).1⟩
 obtain⟨i,-,-,-,h4,h5⟩:=yc hn h hv hp;exact⟨h5,h4⟩
def om (n:ak) (ls:List Int) (v i:Nat):Bool:=mK (ls.getD v 0) ((n.ends.getD v []).getD i (0,0)) (nm ls ((n.ends.getD v []).getD i (0,0)))
def aV (n:ak) (v i:Nat):Nat:=((n.ends.getD v []).getD i (0,0)).1.toNat
theorem iP {n:ak} (hn:al n=true) {v i:Nat} (hi:i<(n.ends.getD v []).length):aV n v i<n.ends.length/\v<n.ends.length/\((n.ends.getD v []).getD i (0,0)).1=(aV n v i:Int)/\∃j:Nat,((n.ends.getD v []).getD i (0,0)).2=(j:Int)/\j<(n.ends.getD (aV n v i) []).length/\(n.ends.getD (aV n v i) []).getD j (0,0)=((v:Int),(i:Int)):=by
 obtain⟨a,b,c,d,e⟩:=df hn (v:=v) (i:=i) (getD_in (d:=(0,0)) hi).2
 refine⟨by unfold aV;omega,a,by unfold aV;omega,_,(Int.toNat_of_nonneg d).symm,an e,?_⟩
 unfold bv at e;unfold aV;rw[zDd (i:=((n.ends.getD v []).getD i (0,0)).2.toNat),e]
 rfl
theorem wg {n:ak} {ls:List Int} (hn:al n=true) (h:dQ n 5 ls) {v i:Nat} (hi:i<(n.ends.getD v []).length) (hk:om n ls v i=true):iO n ls (aV n v i)=some v/\fx ls (aV n v i)=fx ls v+1:=by
 unfold om mK at hk
 rw[Bool.and_eq_true,beq_iff_eq,beq_iff_eq]at hk;obtain⟨h1,h2,h3,j,h4,h5,h6⟩:=iP hn hi;have e:nm ls ((n.ends.getD v []).getD i (0,0))=ls.getD (aV n v i) 0:=rfl;rw[e]at hk;have C3:=(Lg (ls.getD v 0)).1;have hd:fx ls (aV n v i)=fx ls v+1:=hk.2;refine⟨?_,hd⟩;unfold iO;rw[if_neg (by omega),<- hk.1,h4];unfold eB;rw[Int.toNat_natCast,h6];simp
theorem VL {n:ak} {ls:List Int} (hn:al n=true) (h:dQ n 5 ls) {v c:Nat} (hc:c<n.ends.length) (hp:iO n ls c=some v):∃i,i<(n.ends.getD v []).length/\om n ls v i=true/\aV n v i=c:=by
 obtain⟨q,h1,h2,h3,h4,h5⟩:=yc hn h hc hp;obtain⟨g1,g2,g3,j,g4,g5,g6⟩:=iP hn h1;have e:aV n c q=v:=by omega
 rw[e]at g5 g6
 refine⟨j,g5,?_,by unfold aV;rw[g6];simp⟩
 unfold om mK nm
 rw[g6,Bool.and_eq_true,beq_iff_eq,beq_iff_eq];simp only[Int.toNat_natCast];refine⟨h2,?_⟩;unfold fx at h4;omega
theorem RR {n:ak} {ls:List Int} (hn:al n=true) {v i j:Nat} (hi:i<(n.ends.getD v []).length) (hj:j<(n.ends.getD v []).length) (ki:om n ls v i=true) (kj:om n ls v j=true) (he:aV n v i=aV n v j):i=j:=by
 obtain⟨-,-,-,a,a4,a5,a6⟩:=iP hn hi;obtain⟨-,-,-,b,b4,b5,b6⟩:=iP hn hj
 unfold om mK at ki kj
 rw[Bool.and_eq_true,beq_iff_eq,beq_iff_eq]at ki kj;have e1:nm ls ((n.ends.getD v []).getD i (0,0))=ls.getD (aV n v i) 0:=rfl;have e2:nm ls ((n.ends.getD v []).getD j (0,0))=ls.getD (aV n v j) 0:=rfl;rw[e1,a4]at ki;rw[e2,b4,<- he]at kj;have te:a=b:=by omega
 subst te;rw[<- he]at b6;rw[a6]at b6
 have:=congrArg Prod.snd b6
 simp only at this
 omega
def fK (n:ak) (ls:List Int) (v j w:Nat):Bool:=(List.range j).any fun i=>om n ls v i&&oL (fx ls) (iO n ls) w (aV n v i)
theorem O2 {n:ak} {ls:List Int} (hn:al n=true) (h:dQ n 5 ls) {v:Nat} (hv:v<n.ends.length) (ih:∀c,c<n.ends.length->iO n ls c=some v->vt (ls.getD c 0)=((jK n.ends.length (fx ls) (iO n ls) c:Nat):Int)%2):
  ∀j,j<=(n.ends.getD v []).length->jg ls (ls.getD v 0) (n.ends.getD v []) j%2=(1+(((List.range n.ends.length).countP (fK n ls v j):Nat):Int))%2
 | 0,_=>by
  have:(List.range n.ends.length).countP (fK n ls v 0)=0:=List.countP_eq_zero.2 fun w _=>by simp[fK]
  rw[this];simp[jg]
 | j+1,hj=>by
  have h0:=O2 hn h hv ih j (by omega);have hT:=Ey hn h;unfold jg
  have gJ:∀w,fK n ls v (j+1) w=(fK n ls v j w||(om n ls v j&&oL (fx ls) (iO n ls) w (aV n v j))):=fun w=>by
   unfold fK;rw[List.range_succ,List.any_append];simp
  have yF:j<(n.ends.getD v []).length:=by omega
  by_cases hk:om n ls v j=true
  ·have nY:=hk;unfold om at nY;rw[if_pos nY];obtain⟨k1,k2⟩:=wg hn h yF hk;have hc:=(iP hn yF).1;have h1:=ih _ hc k1;have e:nm ls ((n.ends.getD v []).getD j (0,0))=ls.getD (aV n v j) 0:=rfl;rw[e,h1]
   have h2:(List.range n.ends.length).countP (fK n ls v (j+1))=(List.range n.ends.length).countP (fK n ls v j)+jK n.ends.length (fx ls) (iO n ls) (aV n v j):=by
    unfold jK;refine kX (fun w _=>by rw[gJ,hk,Bool.true_and]) fun w hw hb=>?_
    have rC:=List.mem_range.1 hw;rw[Bool.eq_false_iff];intro ha;unfold fK at hb;rw[List.any_eq_true]at hb;obtain⟨i,hi,hb⟩:=hb;have hi:=List.mem_range.1 hi;rw[Bool.and_eq_true]at hb;obtain⟨-,q2⟩:=wg hn h (i:=i) (by omega) hb.1
    have:=v_ hT _ w _ _ rC (Nat.le_refl _) hb.2 ha (by omega)
    have:=RR hn (by omega) yF hb.1 hk this
    omega
   rw[h2];omega
  ·have nY:=hk;unfold om at nY;rw[if_neg nY]
   have h2:(List.range n.ends.length).countP (fK n ls v (j+1))=(List.range n.ends.length).countP (fK n ls v j):=List.countP_congr fun w _=>by
    rw[gJ,Bool.eq_false_iff.2 hk];simp
   rw[h2,Int.add_zero];exact h0
theorem VM {n:ak} {ls:List Int} (hn:al n=true) (h:dQ n 5 ls) {v:Nat} (hv:v<n.ends.length):jK n.ends.length (fx ls) (iO n ls) v=1+(List.range n.ends.length).countP (fK n ls v (n.ends.getD v []).length):=by
 have hT:=Ey hn h;unfold jK
 have h1:(List.range n.ends.length).countP (fun w=>w==v)=1:=by
  have h2:(List.range n.ends.length).count v=1:=by rw[List.Nodup.count List.nodup_range,if_pos (List.mem_range.2 hv)]
  rw[<- h2];rfl
 have h2:=kX (p:=fun w=>w==v) (q:=fK n ls v (n.ends.getD v []).length) (r:=fun w=>oL (fx ls) (iO n ls) w v) (l:=List.range n.ends.length) (fun w hw=>?_) (fun w hw hb=>?_)
 ·rw[h2,h1]
 ·have rC:=List.mem_range.1 hw;rw[Bool.eq_iff_iff,Bool.or_eq_true,beq_iff_eq];constructor
  ·intro ha
   by_cases e:w=v
   ·exact .inl e
   ·obtain⟨c,hc,c1,c2⟩:=p_ hT _ w v rC (Nat.le_refl _) ha e;obtain⟨i,i1,i2,i3⟩:=VL hn h hc c1
    right
    unfold fK;rw[List.any_eq_true]
    exact⟨i,List.mem_range.2 i1,by rw[i2,i3,c2];rfl⟩
  ·rintro(rfl | hb)
   ·exact jD hT rC
   ·unfold fK at hb;rw[List.any_eq_true]at hb;obtain⟨i,hi,hb⟩:=hb;rw[Bool.and_eq_true]at hb;exact B9 hT _ w _ v rC (Nat.le_refl _) hb.2 (wg hn h (List.mem_range.1 hi) hb.1).1
 ·have e:=eq_of_beq hb;subst e;rw[Bool.eq_false_iff];intro hb;unfold fK at hb;rw[List.any_eq_true]at hb;obtain⟨i,hi,hb⟩:=hb;rw[Bool.and_eq_true]at hb;have h3:=(wg hn h (List.mem_range.1 hi) hb.1).2;have h4:=(p9 hT _ w _ hv (Nat.le_refl _) hb.2).2;rcases h4 with h4 | h4
  ·rw[h4]at h3;omega
  ·omega
theorem AG {n:ak} {ls:List Int} (hn:al n=true) (h:dQ n 5 ls):∀(f v:Nat),v<n.ends.length->(100-fx ls v).toNat<=f->vt (ls.getD v 0)=((jK n.ends.length (fx ls) (iO n ls) v:Nat):Int)%2
 | f,v,hv,hf=>by
  have hb:=Lg (ls.getD v 0);have hd:fx ls v=kS (ls.getD v 0):=rfl
  cases f with
  | zero=>omega
  | succ f=>
   have ih:∀c,c<n.ends.length->iO n ls c=some v->vt (ls.getD c 0)=((jK n.ends.length (fx ls) (iO n ls) c:Nat):Int)%2:=fun c hc hp=>by
    obtain⟨i,-,-,-,h4,-⟩:=yc hn h hc hp;exact AG hn h f c hc (by omega)
   have h1:=O2 hn h hv ih _ (Nat.le_refl _);rw[(rE h hv).sum,h1,VM hn h hv];congr 1
theorem wh {n:ak} {ls:List Int} (hn:al n=true) (h:dQ n 5 ls):∀(f w x:Nat),w<n.ends.length->(fx ls w).toNat<=f->oL (fx ls) (iO n ls) w x=true->f6 n w x
 | f,w,x,hw,hf,ha=>by
  have hT:=Ey hn h;rw[ie hT hw,Bool.or_eq_true]at ha;rcases ha with ha | ha
  ·rw[eq_of_beq ha];exact f6.refl
  ·cases hp:iO n ls w with
   | none=>rw[hp]at ha;simp at ha
   | some y=>
    rw[hp]at ha;obtain⟨i,h1,h2,h3,h4,h5⟩:=yc hn h hw hp;have h6:=(Lg (ls.getD y 0)).1;have hd:fx ls y=kS (ls.getD y 0):=rfl
    cases f with
    | zero=>omega
    | succ f=>exact(f6.refl.step (nQ.2 ⟨i,h1,h3⟩)).trans (wh hn h f y x h5 (by omega) ha)
theorem yd {n:ak} {ls:List Int} (hn:al n=true) (h:dQ n 5 ls):∀(f w:Nat),w<n.ends.length->(fx ls w).toNat<=f->∃r,r<n.ends.length/\fx ls r=0/\oL (fx ls) (iO n ls) w r=true
 | f,w,hw,hf=>by
  have hT:=Ey hn h
  by_cases e:fx ls w=0
  ·exact⟨w,hw,e,jD hT hw⟩
  ·have hp:iO n ls w=some (eB n w (tD (ls.getD w 0))):=if_neg e;obtain⟨i,h1,h2,h3,h4,h5⟩:=yc hn h hw hp;have h6:=(Lg (ls.getD (eB n w (tD (ls.getD w 0))) 0)).1;have hd:fx ls (eB n w (tD (ls.getD w 0)))=kS (ls.getD (eB n w (tD (ls.getD w 0))) 0):=rfl
   cases f with
   | zero=>omega
   | succ f=>
    obtain⟨r,r1,r2,r3⟩:=yd hn h f _ h5 (by omega);refine⟨r,r1,r2,?_⟩;rw[ie hT hw,hp,Bool.or_eq_true];exact .inr r3
theorem O3 {n:ak} {ls:List Int} (hl:dY n 5 ls=true) (h:dQ n 5 ls):n.ids.length≠0/\iT n=true:=by
 have hn:=(iv.1 hl).1;have hN:=(aE hn).1;have h0:=(rE h (v:=0) (by omega)).ids;refine⟨h0,?_⟩;have hI:=Lh hn h;have hT:=Ey hn h;unfold iT;rw[List.all_eq_true];intro v hv;have my:=List.mem_range.1 hv;obtain⟨r,hr,r0,hra⟩:=yd hn h _ v my (Nat.le_refl _);have hvr:=wh hn h _ v r my (Nat.le_refl _) hra
 have hz:vt (ls.getD r 0)=0:=by
  rcases(rE h hr).aeA with a | a
  ·exact a.2.2.2
  ·have:=a.1;have:fx ls r=kS (ls.getD r 0):=rfl;omega
 rw[AG hn h _ r hr (Nat.le_refl _)]at hz
 have hs:jK n.ends.length (fx ls) (iO n ls) r=jz n (ai n v):=by
  unfold jK jz jU
  rw[<- List.countP_eq_length_filter];refine List.countP_congr fun w hw=>?_
  have rC:=List.mem_range.1 hw;rw[decide_eq_true_eq];constructor
  ·intro ha
   have:=wh hn h _ w r rC (Nat.le_refl _) ha
   rw[fk hn rC this,<- fk hn my hvr]
  ·intro he;obtain⟨q,q1,q2,q3⟩:=yd hn h _ w rC (Nat.le_refl _);have Z3:=wh hn h _ w q rC (Nat.le_refl _) q3
   have hwv:f6 n w v:=by
    have a1:=(bu hn rC).1;have a2:=(bu hn my).1.symm hn my;rw[he]at a1;exact a1.trans a2
   have:=hI.one hn h0 q1 hr ((Z3.symm hn rC).trans (hwv.trans hvr)) q2 r0
   rw[<- this];exact q3
 rw[hs]at hz;unfold mp;rw[Bool.not_eq_true',beq_eq_false_iff_ne];omega
theorem pK {n:ak} {v i:Nat} {f:Int×Int} (h:bv n v i f):i<(n.ends.getD v []).length/\(n.ends.getD v []).getD i (0,0)=f/\aV n v i=f.1.toNat:=by
 unfold bv at h
 have e:(n.ends.getD v []).getD i (0,0)=f:=by rw[zDd,h];rfl
 exact⟨an h,e,by unfold aV;rw[e]⟩
structure aaD (n:ak) (ls:List Int) (v:Nat):Prop where
 zero:ls.getD v 0=0->∀i,i<(n.ends.getD v []).length->ls.getD (aV n v i) 0=1
 one:ls.getD v 0≠0->∃i,i<(n.ends.getD v []).length/\ls.getD (aV n v i) 0=ls.getD v 0-1/\∀j,j<(n.ends.getD v []).length->j≠i->ls.getD (aV n v j) 0=ls.getD v 0+1
theorem sX (ls:List Int) (es:List (Int×Int)):(bt ls es).length=es.length:=by simp[bt]
theorem wj {ls:List Int} {n:ak} {v i:Nat} (hi:i<(n.ends.getD v []).length):(bt ls (n.ends.getD v []))[i]?=some (ls.getD (aV n v i) 0):=by
 unfold bt;rw[List.getElem?_map,(getD_in (d:=(0,0)) hi).2];rfl
theorem AH {p:Int->Bool} {xs:List Int} (h:xs.countP p=xs.length) {i:Nat} {x:Int} (hx:xs[i]?=some x):p x=true:=List.countP_eq_length.1 h x (List.mem_of_getElem? hx)
theorem ye {p q:Int->Bool} (zg:∀x,p x=true->q x=false):∀ {xs:List Int},xs.countP p=1->((xs.countP q:Nat):Int)=(xs.length:Int)-1->∃(i:Nat) (x:Int),xs[i]?=some x/\p x=true/\∀(j:Nat) (y:Int),xs[j]?=some y->j≠i->q y=true
 | [],h,_=>by simp at h
 | a::xs,h1,h2=>by
  rw[List.countP_cons]at h1 h2;cases ha:p a
  ·rw[ha]at h1
   have hqa:q a=true:=by
    cases hq:q a
    ·exfalso
     rw[hq]at h2;have h3:=List.countP_le_length (p:=q) (l:=xs)
     have h4:xs.countP q+xs.countP p<=xs.length:=by
      have:∀(l:List Int),l.countP q+l.countP p<=l.length:=by
       intro l
       induction l with
       | nil=>simp
       | cons b l ih=>
        rw[List.countP_cons,List.countP_cons,List.length_cons];cases hb:p b
        ·cases q b <;> simp <;> omega
        ·rw[zg b hb];simp;omega
      exact this xs
     simp at h1 h2
     omega
    ·rfl
   rw[hqa]at h2;simp at h1 h2
   obtain⟨i,x,g1,g2,g3⟩:=ye zg h1 (by omega);refine⟨i+1,x,by simpa using g1,g2,fun j y hj gM=>?_⟩
   cases j with
   | zero=>simp at hj;subst hj;exact hqa
   | succ j=>exact g3 j y (by simpa using hj) (by omega)
  ·have hqa:=zg a ha;rw[ha]at h1;rw[hqa]at h2;simp at h1 h2
   refine⟨0,a,by simp,ha,fun j y hj gM=>?_⟩
   cases j with
   | zero=>omega
   | succ j=>exact AH (by omega) (by simpa using hj:xs[j]?=some y)
theorem O4 {n:ak} {ls:List Int} (h:dQ n 3 ls) {v:Nat} (hv:v<n.ends.length):aaD n ls v:=by
 have h1:=h v hv
 unfold fR gX at h1
 rw[if_neg (by decide),if_neg (by decide),if_pos rfl]at h1;unfold xp at h1;refine⟨fun h0 i hi=>?_,fun h0=>?_⟩
 ·rw[if_pos h0,beq_iff_eq]at h1
  have:=AH h1 (wj hi)
  have:=eq_of_beq this
  omega
 ·rw[if_neg h0,Bool.and_eq_true,beq_iff_eq,beq_iff_eq]at h1
  obtain⟨i,x,g1,g2,g3⟩:=ye (fun x hx=>by have:=eq_of_beq hx;rw[beq_eq_false_iff_ne];omega) h1.1 h1.2
  have hi:=an g1;rw[sX]at hi;rw[wj hi]at g1;have g1:=Option.some.inj g1
  refine⟨i,hi,by rw[g1];exact eq_of_beq g2,fun j hj gM=>?_⟩
  exact eq_of_beq (g3 j _ (wj hj) gM)
def Ca (n:ak) (ls:List Int) (v i:Nat):Prop:=i<(n.ends.getD v []).length/\ls.getD (aV n v i) 0=ls.getD v 0-1
theorem Jy {n:ak} {ls:List Int} (h:dQ n 3 ls) {v i j:Nat} (hv:v<n.ends.length) (hi:Ca n ls v i) (hj:Ca n ls v j):i=j:=by
 have ha:=O4 h hv
 by_cases e:ls.getD v 0=0
 ·have:=ha.zero e i hi.1;have:=hi.2;omega
 ·obtain⟨k,k1,k2,k3⟩:=ha.one e
  by_cases e1:i=k
  ·by_cases e2:j=k
   ·omega
   ·have:=k3 j hj.1 e2;have:=hj.2;omega
  ·have:=k3 i hi.1 e1;have:=hi.2;omega
theorem Cb {n:ak} {ls:List Int} (h:dQ n 3 ls) {v i:Nat} (hv:v<n.ends.length) (hi:i<(n.ends.getD v []).length):ls.getD (aV n v i) 0=ls.getD v 0-1\/ls.getD (aV n v i) 0=ls.getD v 0+1:=by
 have ha:=O4 h hv
 by_cases e:ls.getD v 0=0
 ·right;have:=ha.zero e i hi;omega
 ·obtain⟨k,k1,k2,k3⟩:=ha.one e
  by_cases e1:i=k
  ·left;rw[e1];exact k2
  ·right;exact k3 i hi e1
inductive VN (n:ak) (ls:List Int) (w:Nat):Nat->Prop
 | self:VN n ls w w
 | up {x i:Nat}:VN n ls w (aV n x i)->x<n.ends.length->Ca n ls x i->VN n ls w x
theorem VN.ge {n:ak} {ls:List Int} {w x:Nat} (h:VN n ls w x):ls.getD w 0<=ls.getD x 0/\(x≠w->ls.getD w 0<ls.getD x 0):=by
 induction h with
 | self=>exact⟨Int.le_refl _,fun e=>absurd rfl e⟩
 | up h1 _ h2 ih=>have:=h2.2;exact⟨by omega,fun _=>by omega⟩
theorem G9 {n:ak} {ls:List Int} (hl:dY n 3 ls=true) (h:dQ n 3 ls):sA n=true:=by
 have hn:=(iv.1 hl).1;unfold sA;rw[Bool.and_eq_true,decide_eq_true_eq];constructor
 ·rw[I4 hn];unfold uI;rw[Bool.not_eq_true',List.any_eq_false];intro v hv hc;have my:=List.mem_range.1 hv;rw[List.any_eq_true]at hc;obtain⟨i,hi,hc⟩:=hc;have hi:=List.mem_range.1 hi;have hc:=of_decide_eq_true hc
  have e:aV n v i=v:=by
   unfold aV;unfold gj at hc
   rw[hc];simp
  rcases Cb h my hi with a | a <;> rw[e]at a <;> omega
 ·rw[rf hn]
  have rJ:∀(w i:Nat) (f:Int×Int),bv n w i f->Ca n ls w i->¬f6 (gW n (et w i f)) w f.1.toNat:=by
   intro w i f hp hf hr;obtain⟨p1,p2,p3⟩:=pK hp;obtain⟨q1,q2,q3,q4,q5⟩:=df hn hp
   have hu:VN n ls w f.1.toNat:=by
    have:∀x,f6 (gW n (et w i f)) w x->VN n ls w x/\x<n.ends.length:=by
     intro x hx
     induction hx with
     | refl=>exact⟨.self,q1⟩
     | step h1 h2 ih=>
      rename_i a b
      obtain⟨j,g,hg,e⟩:=jv.1 h2;obtain⟨j',f',CG,tC,-,rfl⟩:=(mI hn _).1 hg;obtain⟨r1,r2,r3⟩:=pK CG;obtain⟨s1,s2,s3,s4,s5⟩:=df hn CG;have e:f'.1=(b:Int):=e;have eb:aV n a j'=b:=by omega
      refine⟨?_,by omega⟩
      rcases Cb h ih.2 r1 with d | d
      ·-- one down
       cases ih.1 with
       | self=>
        exfalso
        have:=Jy h q1 hf ⟨r1,d⟩
        subst this;unfold et at tC;simp at tC
       | up h3 h4 h5=>
        rename_i k
        have:=Jy h ih.2 h5 ⟨r1,d⟩
        subst this;rw[eb]at h3;exact h3
      ·-- one up
       obtain⟨t1,t2,t3⟩:=pK s5
       have ef:aV n b f'.2.toNat=a:=by
        have:b=f'.1.toNat:=by omega
        rw[this,t3];simp
       refine .up (i:=f'.2.toNat) (by rw[ef];exact ih.1) (by omega) ⟨(show b=f'.1.toNat by omega) ▸ t1,?_⟩
       rw[ef];rw[eb]at d;omega
    exact(this _ hr).1
   have h1:=hu.ge.1;have h2:=hf.2;rw[p3]at h2;omega
  intro v i f hp hr;obtain⟨p1,p2,p3⟩:=pK hp;obtain⟨q1,q2,q3,q4,q5⟩:=df hn hp;rcases Cb h q1 p1 with d | d
  ·exact rJ v i f hp ⟨p1,d⟩ hr
  ·obtain⟨t1,t2,t3⟩:=pK q5
   have ef:aV n f.1.toNat f.2.toNat=v:=by rw[t3];simp
   have Jb:et f.1.toNat f.2.toNat ((v:Int),(i:Int))=et v i f:=by
    funext x j
    unfold et;simp only[Int.toNat_natCast];rw[Bool.or_comm]
   have O5:=re hn (et v i f) (j9 hn hp);have hlen:(gW n (et v i f)).ends.length=n.ends.length:=by simp[gW]
   have oG:=hr.symm O5 (by rw[hlen];exact q1)
   rw[<- Jb]at oG;refine rJ f.1.toNat f.2.toNat _ q5 ⟨t1,?_⟩ (by simpa using oG);rw[ef];rw[p3]at d;omega
theorem RS {n:ak} (hn:al n=true) (h:ll n=true):dQ n 1 (ml n):=by
 intro v hv
 unfold fR gX
 rw[if_pos rfl,Bool.and_eq_true,decide_eq_true_eq,Bool.not_eq_true',List.any_eq_false,fP hv]
 have h2:∀x,0<=f_ n x/\f_ n x<=1:=fun x=>by unfold f_;omega
 refine⟨(h2 v).2,fun x hx=>?_⟩
 obtain⟨e,he,rfl⟩:=pI.1 hx;have hr:=ig hn he;rw[fP (by omega)];rw[pW hn,List.all_eq_true]at h;have h3:=h v (List.mem_range.2 hv);rw[Bool.not_eq_true',List.any_eq_false]at h3;have h4:=h3 _ (lF he hr.2.1);unfold lk at h4;rw[Int.toNat_natCast,fP (by omega)]at h4
 have h5:f_ n v≠f_ n e.1.toNat:=fun e=>h4 (by rw[e];simp)
 have:=h2 v
 have:=h2 e.1.toNat
 rw[bne_iff_ne,Decidable.not_not];omega
theorem Li {n:ak} {l:List Int} (h:Xk n l):dQ n 2 l:=by
 intro v hv;obtain⟨h1,h2⟩:=h v hv
 unfold fR gX
 rw[if_neg (by decide),if_pos rfl,Bool.and_eq_true,decide_eq_true_eq,Bool.not_eq_true'];refine⟨h1.2,?_⟩;unfold iB;rw[List.contains_eq_mem,decide_eq_false_iff_not];intro hm;obtain⟨e,he,hc⟩:=pI.1 hm;exact h2 e he hc
theorem pL {n:ak} (hn:al n=true) (h0:n.ids.length≠0):n.ids.length=n.ends.length/\∀v,v<n.ends.length->1<=n.ids.getD v 0/\n.ids.getD v 0<=999999:=by
 have hi:=(m_.1 hn).2.1;rw[<- vL]at hi;unfold pc at hi;rw[Bool.and_eq_true,List.all_eq_true,Bool.or_eq_true,beq_iff_eq,beq_iff_eq]at hi;have hl:n.ids.length=n.ends.length:=by omega
 refine⟨hl,fun v hv=>?_⟩
 have:=hi.1 v (List.mem_range.2 (by omega))
 rw[Bool.and_eq_true]at this;exact ap.1 this.1
theorem O6 {n:ak} (hn:al n=true) {r v:Nat} (hr:r<n.ends.length) (Ju:f6 n r v) (gM:v≠r):0<aw n r v/\∃w:Nat,(w:Int)∈eh n (v:Int)/\aw n r w=aw n r v-1:=by
 have hd:=qc hn hr;obtain⟨y,h1,h2,h3⟩:=hd.par v Ju gM;have h4:=hd.pos y h1;have h3':aw n r y+1=aw n r v:=h3;have h4':0<=aw n r y:=h4;exact⟨by omega,y,vO hn (mg hn hr h1) h2,by omega⟩
theorem yf {n:ak} (hn:al n=true) {r:Nat} (hr:r<n.ends.length):aw n r r=0:=(qc hn hr).zero
theorem pM {n:ak} (hn:al n=true) {r v:Nat} (hr:r<n.ends.length) (hv:v<n.ends.length) : -1<=aw n r v/\aw n r v<n.ends.length:=by
 have:=(sq hn hr hv)
 unfold aw;omega
theorem nd {n:ak} {f:Nat->Int} {v:Nat} (hv:v<n.ends.length):((List.range n.ends.length).map f).getD v 0=f v:=by
 rw[zDd,List.getElem?_map,List.getElem?_range hv];rfl
theorem ne {n:ak} (hn:al n=true) (h:eL n=true) {v:Nat} (hv:v<n.ends.length):∃r:Nat,gE n v=(r:Int)/\r<n.ends.length/\ai n r=ai n v/\n.aea.getD r 0=1/\(∀w,w<n.ends.length->ai n w=ai n v->n.aea.getD w 0=1->w=r)/\f6 n r v:=by
 have h1:=List.all_eq_true.1 h v (List.mem_range.2 hv);unfold jy at h1;have h1:=eq_of_beq h1
 unfold gE jN
 unfold jT at h1
 cases ho:cS n (ai n v) n.ends.length with
 | nil=>rw[ho]at h1;simp at h1
 | cons r l=>
  rw[ho]at h1;have hl:l=[]:=by simpa using h1
  subst hl
  have hm:∀w,w∈cS n (ai n v) n.ends.length↔w<n.ends.length/\ai n w=ai n v/\n.aea.getD w 0=1:=fun w=>by
   unfold cS jM
   rw[List.mem_filter,List.mem_range,Bool.and_eq_true,decide_eq_true_eq,decide_eq_true_eq]
  have hr:=(hm r).1 (by rw[ho];simp)
  refine⟨r,rfl,hr.1,hr.2.1,hr.2.2,fun w a b c=>?_,?_⟩
  ·have:=(hm w).2 ⟨a,b,c⟩
   rw[ho]at this;simpa using this
  ·have a1:=(bu hn hr.1).1;have a2:=(bu hn hv).1.symm hn hv;rw[hr.2.1]at a1;exact a1.trans a2
theorem Ez {n:ak} {v w:Nat} (h:ai n v=ai n w):gE n v=gE n w:=by unfold gE;rw[h]
theorem O7 {n:ak} (hn:al n=true) (h0:n.ids.length≠0) (h:eL n=true):dQ n 4 ((List.range n.ends.length).map (ko n)):=by
 have hN:=aE hn;intro v hv;obtain⟨r,hr,qT,hrc,hri,hru,Ju⟩:=ne hn h hv;have hid:=pL hn h0
 have yg:∀w,w<n.ends.length->ai n w=ai n v->((List.range n.ends.length).map (ko n)).getD w 0=n.ids.getD r 0*100+aw n r w/\0<=aw n r w/\aw n r w<100:=fun w hw he=>by
  rw[nd hw];unfold ko;rw[Ez he,hr,Int.toNat_natCast]
  have ec:f6 n r w:=by
   have a1:=(bu hn hv).1;have a2:=(bu hn hw).1.symm hn hw;rw[he]at a2;exact Ju.trans (a1.trans a2)
  have:=(na hn qT hw).2 ec
  have:=pM hn qT hw
  exact⟨rfl,by omega,by omega⟩
 obtain⟨l1,l2,l3⟩:=yg v hv rfl
 unfold fR gX
 rw[if_neg (by decide),if_neg (by decide),if_neg (by decide),if_pos rfl,Bool.and_eq_true,decide_eq_true_eq];refine⟨h0,?_⟩;rw[l1];unfold ka;rw[Bool.and_eq_true,List.all_eq_true,Bool.or_eq_true]
 have TQ:∀i,i<(n.ends.getD v []).length->nm ((List.range n.ends.length).map (ko n)) ((n.ends.getD v []).getD i (0,0))=n.ids.getD r 0*100+aw n r (aV n v i)/\0<=aw n r (aV n v i)/\aw n r (aV n v i)<100:=fun i hi=>by
  have lM:=(getD_in (d:=(0,0)) hi).1;have dB:=ig hn lM
  exact yg (aV n v i) (by unfold aV;omega) (fk hn hv (f6.refl.step (lF lM dB.2.1))).symm
 refine⟨fun i hi=>?_,?_⟩
 ·obtain⟨a,b,c⟩:=TQ i (List.mem_range.1 hi);rw[a,beq_iff_eq];omega
 ·by_cases e:v=r
  ·left
   subst e;rw[yf hn qT,Bool.and_eq_true,Bool.and_eq_true,beq_iff_eq,beq_iff_eq,beq_iff_eq];exact⟨⟨by omega,by omega⟩,hri⟩
  ·right
   obtain⟨n1,w,n2,n3⟩:=O6 hn qT Ju e;rw[Bool.and_eq_true,Bool.and_eq_true,decide_eq_true_eq,bne_iff_ne,List.any_eq_true];refine⟨⟨by omega,fun hi=>e (hru v hv rfl hi)⟩,?_⟩
   obtain⟨i,hi,hw⟩:=nQ.1 n2;refine⟨i,List.mem_range.2 hi,?_⟩;obtain⟨a,b,c⟩:=TQ i hi
   have ef:aV n v i=w:=by unfold aV;rw[hw];simp
   rw[a,beq_iff_eq];rw[ef]at b c ⊢;omega
end Go.Proofs.YtgmdpppljkmabaaGreat
