/- Parts of the proof: walks of functions and plain laws. -/
import Derived.Test.YtgjggeapebbcbaaGreatP0
import Derived.Test.YtgjggeapebbcbaaGreatP15
import Derived.Test.YtgjggeapebbcbaaGreatP5
import Derived.Deep.CutBlock
import Derived.Test.YtgjggeapebbcbaaGreatP7
import Derived.Test.YtgjggeapebbcbaaGreatP14
set_option maxRecDepth 100000
set_option maxHeartbeats 16000000
namespace Go.Proofs.YtgjggeapebbcbaaGreat
open Go Go.RowKit
theorem rq {p:aN} {n:am} {l:List (List Int)} {v:Nat} (hv:v<l.length) (h:tw p n l v=false):jF p n l=false:=by
 rw[Bool.eq_false_iff];intro hs;unfold jF at hs;rw[List.all_eq_true.1 hs v (List.mem_range.2 hv)]at h;cases h
theorem x7 {a b c d:Bool} (h1:a=b) (h2:c=d):Ending.returned (.tuple #[.bool a,.bool c])=.returned (.tuple #[.bool b,.bool d]):=by rw[h1,h2]
theorem CR {a b c d:Int} {x y:Bool} (h1:a=c) (h2:b=d) (h3:x=y):Ending.returned (.tuple #[.int .i64 a,.int .i64 b,.bool x])=.returned (.tuple #[.int .i64 c,.int .i64 d,.bool y]):=by rw[h1,h2,h3]
theorem j8 {f:Nat->Bool} {k:Nat} (h:(List.range k).all f=true) (hk:f k=true):(List.range (k+1)).all f=true:=by
 rw[List.range_succ,List.all_append,h];simp[hk]
theorem pO (pa pb ve vi vn vl:Value) (p:aN) (n:am) (l:List (List Int)) (w:World) (hp:el w pa pb p) (h:aI w ve vi vn n) (hl:bw w vl l) (dR:eA p=true) (hn:aw n=true) (hf:di p n l=true) (zp:rA p<=1048576):
  Calls Tryz.prog 46 #[.agg #[.int .i64 p.labels,.int .i64 p.degree,pa,pb],.agg #[ve,vi,vn],vl] w fun e w'=>(∃x y:Int,e=.returned (.tuple #[.int .i64 x,.int .i64 y,.bool (!jF p n l)]))/\Below w.heap.size w w':=by
 obtain⟨hs,hr⟩:=jm hf;have zl:eW p.aad:=(jj dR).2
 have Vf:eW p.nodes:=by
  unfold eA at dR;simp only[Bool.and_eq_true]at dR;exact mT dR.2.2.1
 have rF:p.aad.length<=1048576:=by unfold rA Af at zp;omega
 have vG:p.nodes.length<=1048576:=by unfold rA Af at zp;omega
 have yM:=(dj hn).2;obtain⟨w0,au⟩:∃w0,w0=((w).alloc (.cells #[.int .i64 p.labels,.int .i64 p.degree,pa,pb] 40)).alloc (.cells #[ve,vi,vn] 27):=⟨_,rfl⟩
 have bO:Below w.heap.size w w0:=by rw[au];exact(((Below.refl _ _).alloc (by simp <;> omega) _).alloc (by simp <;> omega) _)
 have H:=zh (h.aab bO);obtain⟨h1,h2,h3⟩:=h.aab bO;obtain⟨A,c,rfl,er,hm,hA⟩:=h1;obtain⟨A2,c2,rfl,_,et,_⟩:=h2;obtain⟨A3,c3,rfl,_,fG,_⟩:=h3;unfold maxLen at hm et fG;have dV:=hp.aab bO;have HP:=zh dV;obtain⟨P0,gL,rfl,lJ,fw,cH⟩:=id dV.1;unfold maxLen at fw;have lK:=zh cH;clear cH;obtain⟨P1,g8,rfl,lL,fx,cJ⟩:=id dV.2;unfold maxLen at fx;have lM:=zh cJ;clear cJ;clear dV hp
 have e8:∀W,aa w0 W->W.cell? ⟨w.heap.size,0,none⟩=some (.int .i64 p.labels):=ad (by rw[au];simp)
 have fh:∀W,aa w0 W->W.cell? ⟨w.heap.size,1,none⟩=some (.int .i64 p.degree):=ad (by rw[au];simp)
 have fi:∀W,aa w0 W->W.cell? ⟨w.heap.size,2,none⟩=some (.slice P0 p.nodes.length gL):=ad (by rw[au];simp)
 have pT:∀W,aa w0 W->W.cell? ⟨w.heap.size,3,none⟩=some (.slice P1 p.aad.length g8):=ad (by rw[au];simp)
 have vj:∀W,aa w0 W->W.cell? ⟨w.heap.size+1,0,none⟩=some (.slice A n.ends.length c):=ad (by rw[au];simp)
 have C7:∀W,aa w0 W->W.cell? ⟨w.heap.size+1,1,none⟩=some (.slice A2 n.ids.length c2):=ad (by rw[au];simp)
 have C8:∀W,aa w0 W->W.cell? ⟨w.heap.size+1,2,none⟩=some (.slice A3 n.aaa.length c3):=ad (by rw[au];simp)
 have aY:=zh bO;have bM:=zh au;have HA:=zh hA;clear hA h;clear bO au;have HL:=zh (show ∀X,aa w0 X->bw X vl l from fun X hX=>(hl.aab aY.out).aab hX.below)
 have PQ:=zh (show ∀X,aa w0 X->jt X (.slice A n.ends.length c) n.ends from fun X hX=>(H.out.aab hX.below).es)
 have ma:=zh (show ∀X,aa w0 X->el X (.slice P0 p.nodes.length gL) (.slice P1 p.aad.length g8) p from fun X hX=>HP.out.aab hX)
 obtain⟨AL,cL,rfl,-,Fr,Iu⟩:=HL.out w0 (ab _);unfold maxLen at Fr;have Vg:=zh Iu;have Hs:=zh hs;have Hn:=zh hn;have HE:=zh zl;have HN:=zh Vf
 have zx:l.length<=40:=by rw[hs.1];exact yM
 have ja:=zh hs.1;have aX:aa w0 w0:=ab _;clear hl Iu hs hr hn zl Vf dR hf zp
 go_enter Tryz.func46,Tryz.ntmps46
 go_upto_region 1 with(fail);rw[<- bM.out];go_wp2
 go_loopw [16] (fun i wr=>∃v:Nat,v<=l.length/\i=.int .i64 v/\(List.range v).all (tw p n l)=true/\aa w0 wr) (fun i _=>l.length-(intOf i).toNat)
 case atStart=>exact⟨0,Nat.zero_le _,rfl,rfl,aX⟩
 case round=>
  obtain⟨v,hv,rfl,bF,dz⟩:=hrel;have fF:=zh bF;clear bF aX
  by_cases aH:v<l.length
  ·obtain⟨row,x8⟩:=ax l v aH
   have Fp:v<n.ends.length:=by have:=ja.out;omega
   obtain⟨es,ba⟩:=ax n.ends v Fp
   have I8:row.length=es.length:=by have h9:=Hs.out.2 v;rw[ag x8,ag ba]at h9;exact h9
   have Y9:es.length<=6:=(e9 Hn.out ba).1;obtain⟨bL,oL,uL,rfl,Vh,MC⟩:=Vg.out v row x8;obtain⟨AR,cR,rfl,Y_,tG,RH⟩:=MC;unfold maxLen at tG;have dr:=ad Vh;obtain⟨bE,oE,cE,uE,gn,A_,MD,CS⟩:=fo (PQ.out w0 (ab _)) ba;cases gn;obtain⟨AE,zE,rfl,cj,cX,ME⟩:=CS;unfold maxLen at cX;have de:=ad MD;have Za:=zh RH;have RI:=zh ME;have ir:=zh x8;have kB:=zh ba
   have Zb:=zh (show ∀X,aa w0 X->aG X (.slice AR row.length cR) row from fun X hX=>by
    have h8:aG w0 (.slice AR row.length cR) row:=⟨AR,cR,rfl,Y_,by unfold maxLen;exact tG,RH⟩
    exact h8.aab hX.below)
   have m3:IntKind.i64.wrap ((v:Int)+1)=(v:Int)+1:=aR _ (by omega) (by omega);obtain⟨cf,Dz⟩:∃z,vN p row=z:=⟨_,rfl⟩
   have Oi:=zh Dz;have Fq:row.length<=1000:=by omega
   have Zc:=zh I8;have Zd:=dr wr dz;clear x8 ba Vh MD RH ME Dz A_ I8;go_upto_region 4 with(fail);clear Zd
   go_cut [31]from 21 to 31 (fun t wx=>t=.bool (!cf)/\aa w0 wx)
   case first=>
    have q1:=fh wr dz;have q0:=e8 wr dz;have q2:=fi wr dz;have q3:=pT wr dz;have fQ:=zh dz
    by_cases hd:(row.length:Int)=p.degree
    ·have g1:((row.length:Int)==p.degree)=true:=by simp[hd]
     have Hd:=zh hd;have JG:=xe _ _ p _ row wr (ma.out wr dz) (Zb.out wr dz) HN.out vG Fq
     rw[show p.nodes.contains (db row)=cf from by rw[<- Oi.out];unfold vN;rw[beq_iff_eq.2 Hd.out];rfl]at JG
     have Ze:=zh JG;clear hd JG dz;go_wp2_with fail;refine Ze.out.mono ?_;rintro e w2 ⟨rfl,hb2⟩;have g7:=zh (fQ.out.after (show aa wr w2 from hb2));clear hb2 q0 q1 q2 q3;go_wp2;go_meet
     case rel=>exact⟨by first | rfl | simp,g7.out⟩
    ·have g1:((row.length:Int)==p.degree)=false:=by simp[hd]
     have Zf:cf=true:=by rw[<- Oi.out];unfold vN;rw[beq_eq_false_iff_ne.2 hd];rfl
     subst Zf;clear hd dz;go_wp2;go_meet
     case rel=>exact⟨by first | rfl | simp,fQ.out⟩
   case rest=>
   obtain⟨rfl,BJ⟩:=hcut;obtain⟨w5,rfl⟩:∃z,z=wc:=⟨_,rfl⟩
   have F4:=zh BJ;clear dz;cases cf
   ·have qH:Hid ((!jF p n l)=true):=by
     show _=_
     rw[rq aH (by unfold tw;rw[ag ir.out,Oi.out];rfl)]
     rfl
    clear BJ;go_wp2
    go_ret3
    exact⟨⟨(v:Int),-1,CR rfl rfl qH.out.symm⟩,aa.after aY.out F4.out⟩
   ·have Zg:=de w5 BJ;have Zh:=vj w5 BJ;clear BJ;go_wp2;clear Zg Zh
    go_loopw [39] (fun i wr=>∃j:Nat,j<=es.length/\i=.int .i64 j/\(List.range j).all (nn p n l v)=true/\aa w0 wr) (fun i _=>es.length-(intOf i).toNat)
    case atStart=>exact⟨0,Nat.zero_le _,rfl,rfl,F4.out⟩
    case round=>
     obtain⟨i,hi,rfl,Vi,oX⟩:=hrel;have Vj:=zh Vi;clear Vi;obtain⟨wo,rfl⟩:∃z,z=wr:=⟨_,rfl⟩
     by_cases qh:i<es.length
     ·obtain⟨e,he⟩:=ax es i qh
      have nl:a8 n v i e:=by unfold a8;rw[ag kB.out];exact he
      obtain⟨-,f1,f2,f3,iJ⟩:=fA Hn.out nl;obtain⟨x,hx⟩:=Int.eq_ofNat_of_zero_le f1;obtain⟨j,hj⟩:=Int.eq_ofNat_of_zero_le f3;obtain⟨e1,e2⟩:=e;simp only at hx hj f2
      subst hx hj;have Di:x<n.ends.length:=by omega
      have BV:x<l.length:=by have:=ja.out;omega
      obtain⟨ku,lN⟩:=ax l x BV;simp only[Int.toNat_natCast]at iJ
      have vq:j<ku.length:=by
       have h9:=Hs.out.2 x;rw[ag lN]at h9;rw[h9];exact ai iJ
      obtain⟨y1,Fj⟩:=ax row i (by have:=Zc.out;omega)
      obtain⟨y2,Gr⟩:=ax ku j vq;have GZ:i<row.length:=ai Fj;obtain⟨b1,o1,rfl,MF⟩:=Za.out i y1 Fj;obtain⟨b3,o3,u3,e3,sA,MG⟩:=Vg.out x ku lN;cases e3;obtain⟨WT,z3,rfl,Zi,RJ,MH⟩:=MG;obtain⟨b4,o4,rfl,MI⟩:=MH j y2 Gr;unfold maxLen at RJ;obtain⟨b5,o5,rfl,xg,xh⟩:=RI.out i _ he;simp only at xg xh
      have t1:=ad xg wo oX;have t2:=ad xh wo oX;obtain⟨w8,mB⟩:∃z,z=wo.alloc (.cells #[.int .i64 (x:Int),.int .i64 (j:Int)] 36):=⟨_,rfl⟩
      obtain⟨eb,nX⟩:∃z,z=wo.heap.size:=⟨_,rfl⟩
      have h8:aa wo w8:=by rw[mB];exact ae _ (ab _)
      have z0:∀W,aa w8 W->W.cell? ⟨eb,0,none⟩=some (.int .i64 (x:Int)):=ad (by rw[mB,nX];simp)
      have z1:∀W,aa w8 W->W.cell? ⟨eb,1,none⟩=some (.int .i64 (j:Int)):=ad (by rw[mB,nX];simp)
      have Jn:=zh mB;have H_:=zh nX;have iz:=zh (oX.after h8);have m4:IntKind.i64.wrap ((i:Int)+1)=(i:Int)+1:=aR _ (by omega) (by omega);obtain⟨fb,RK⟩:∃z,kS n v i=z:=⟨_,rfl⟩
      have CT:fb=(decide ((v:Int)<(x:Int))||(decide ((v:Int)=(x:Int))&&decide ((i:Int)<=(j:Int)))):=by rw[<- RK];unfold kS;rw[ag (show(n.ends.getD v [])[i]?=some ((x:Int),(j:Int))from nl)]
      obtain⟨ez,RM⟩:∃z,edgeB p y1 y2=z:=⟨_,rfl⟩
      have Vk:Hid (nn p n l v i = !(fb && !ez)):=by
       show _=_
       unfold nn aE cT
       rw[RK,ag (show(n.ends.getD v [])[i]?=some ((x:Int),(j:Int))from nl),ag ir.out,ag Fj]
       simp only[Int.toNat_natCast];rw[ag lN,ag Gr,RM]
      have Zj:=zh (show ∀X,aa w8 X->Calls Tryz.prog 93 #[.agg #[.int .i64 p.labels,.int .i64 p.degree,.slice P0 p.nodes.length gL,.slice P1 p.aad.length g8],.int .i64 y1,.int .i64 y2] X fun e w'=>e=.returned (.bool ez)/\Below X.heap.size X w' from fun X hX=>by rw[<- RM];exact s7 _ _ p y1 y2 X (ma.out X ((oX.after h8).after hX)) HE.out rF)
      have Vl:=ad MF;have Vm:=ad MI;have Ec:=ad sA;have Zk:=ak Vl (oX.after h8);have Zl:=ak Vm (oX.after h8);have Zm:=ak Ec (oX.after h8);have po0:=ak e8 (oX.after h8);have po1:=ak fh (oX.after h8);have po2:=ak fi (oX.after h8);have po3:=ak pT (oX.after h8);have Zn:=zh CT;clear mB nX h8 iJ nl he lN Fj Gr MF MI sA MH xg xh CT RK RM Vl Vm Ec f1 f2 f3 oX;go_upto_region 9 with(fail);rw[<- Jn.out,<- H_.out];clear t1 t2
      go_cut [13]from 44 to 59 (fun t wx=>t=.bool fb/\wx=w8)
      case first=>
       have z00:=z0 w8 (ab _);have z10:=z1 w8 (ab _);have CT:=Zn.out
       by_cases q1:(v:Int)<(x:Int)
       ·obtain rfl:fb=true:=by rw[CT,decide_eq_true q1];rfl
        have g1:decide ((v:Int)<(x:Int))=true:=decide_eq_true q1;clear CT;go_wp2;go_meet
        case rel=>exact⟨by first | rfl | simp,rfl⟩
       ·have g1:decide ((v:Int)<(x:Int))=false:=decide_eq_false q1
        by_cases q2:v=x
        ·subst q2
         by_cases q3:(i:Int)<=(j:Int)
         ·obtain rfl:fb=true:=by rw[CT,decide_eq_true q3];simp
          have g3:decide ((i:Int)<=(j:Int))=true:=decide_eq_true q3;clear CT;go_wp2;go_meet
          case rel=>exact⟨by first | rfl | simp,rfl⟩
         ·obtain rfl:fb=false:=by rw[CT,decide_eq_false q3,g1];simp
          have g3:decide ((i:Int)<=(j:Int))=false:=decide_eq_false q3;clear CT;go_wp2;go_meet
          case rel=>exact⟨by first | rfl | simp,rfl⟩
        ·have g2:((v:Int)==(x:Int))=false:=by rw[beq_eq_false_iff_ne];omega
         obtain rfl:fb=false:=by rw[CT,g1,decide_eq_false (by omega)];rfl
         clear CT;go_wp2;go_meet
         case rel=>exact⟨by first | rfl | simp,rfl⟩
      case rest=>
      obtain⟨bS,ke⟩:=hcut;subst bS;have sA:=ke.symm;clear ke;subst sA;go_upto_region 10 with(fail);refine aq 19 (aa w8) (by kernel_rfl) (by kernel_rfl) (by simp) (ah (ab _)) ?_;simp only[zT]
      iterate 2 (refine cY rfl ?_;simp only[zA])
      iterate 14 (refine kA rfl rfl ?_;simp only[zA])
      refine ck (v:=?_) rfl rfl ?_ ?_;rotate_left;(intro hb;intro W hW;unfold bN;go_simp;(with_reducible refine(Zj.out W hW).mono ?_);rintro e W' ⟨rfl,aZ⟩;first | (refine⟨?_,aa.trans hW aZ⟩;with_reducible rfl) | (subst aZ;refine⟨?_,hW⟩;with_reducible rfl))
      simp only[zA]
      refine kA rfl rfl ?_;simp only[zA]
      (first | refine eH rfl rfl ?_ | (refine cY rfl ?_));simp only[zA]
      intro W hW;have K3:=zh (iz.out.after hW);clear hW;cases hz:(fb && !ez)
      ·have Zo:Hid (nn p n l v i=true):=by show _=_;rw[Vk.out,hz];rfl
       clear hz;go_wp2;go_roundw
       case rel=>exact⟨i+1,by omega,by first | rfl | go_num,j8 Vj.out Zo.out,K3.out⟩
       case measure=>simp[intOf];omega
      ·have qH:Hid ((!jF p n l)=true):=by
        show _=_
        have h1:nn p n l v i=false:=by rw[Vk.out,hz];rfl
        rw[rq aH (by
         unfold tw;rw[Bool.and_eq_false_iff]
         right
         rw[Bool.eq_false_iff];intro h2
         rw[List.all_eq_true.1 h2 i (List.mem_range.2 (by rw[ag kB.out];exact qh))]at h1
         cases h1)]
        rfl
       clear hz;go_wp2
       go_ret3
       exact⟨⟨(v:Int),(i:Int),CR rfl rfl qH.out.symm⟩,aa.after aY.out K3.out⟩
     ·obtain rfl:i=es.length:=by omega
      have QK:Hid (tw p n l v=true):=by show _=_;unfold tw;rw[ag ir.out,Oi.out,ag kB.out,Vj.out];rfl
      have Aw:=zh oX;clear oX;go_wp2;go_roundw
      case rel=>exact⟨v+1,by omega,by first | rfl | go_num,j8 fF.out QK.out,Aw.out⟩
      case measure=>simp[intOf];omega
  ·obtain rfl:v=l.length:=by omega
   have GY:Hid ((!jF p n l)=false):=by show _=_;unfold jF;rw[fF.out];rfl
   have fQ:=zh dz;clear dz;go_wp2
   go_ret3
   exact⟨⟨0,0,CR rfl rfl GY.out.symm⟩,aa.after aY.out fQ.out⟩
theorem j9 (pa pb ve vi vn vl:Value) (p:aN) (n:am) (l:List (List Int)) (w:World) (hp:el w pa pb p) (h:aI w ve vi vn n) (hl:bw w vl l) (zp:rA p<=1048576) (qh:n.ids.length<=17592186044416):
  Calls Tryz.prog 16 #[.agg #[.int .i64 p.labels,.int .i64 p.degree,pa,pb],.agg #[ve,vi,vn],vl] w fun e w'=>e=.returned (.tuple #[.bool (eo p n l&&jF p n l),.bool (eo p n l)])/\Below w.heap.size w w':=by
 obtain⟨w0,au⟩:∃w0,w0=((w).alloc (.cells #[.int .i64 p.labels,.int .i64 p.degree,pa,pb] 40)).alloc (.cells #[ve,vi,vn] 27):=⟨_,rfl⟩
 have bO:Below w.heap.size w w0:=by rw[au];exact(((Below.refl _ _).alloc (by simp <;> omega) _).alloc (by simp <;> omega) _)
 have H:=zh (h.aab bO);obtain⟨h1,h2,h3⟩:=h.aab bO;obtain⟨A,c,rfl,er,hm,hA⟩:=h1;obtain⟨A2,c2,rfl,_,et,_⟩:=h2;obtain⟨A3,c3,rfl,_,fG,_⟩:=h3;unfold maxLen at hm et fG;have dV:=hp.aab bO;have HP:=zh dV;obtain⟨P0,gL,rfl,lJ,fw,cH⟩:=id dV.1;unfold maxLen at fw;have lK:=zh cH;clear cH;obtain⟨P1,g8,rfl,lL,fx,cJ⟩:=id dV.2;unfold maxLen at fx;have lM:=zh cJ;clear cJ;clear dV hp
 have e8:∀W,aa w0 W->W.cell? ⟨w.heap.size,0,none⟩=some (.int .i64 p.labels):=ad (by rw[au];simp)
 have fh:∀W,aa w0 W->W.cell? ⟨w.heap.size,1,none⟩=some (.int .i64 p.degree):=ad (by rw[au];simp)
 have fi:∀W,aa w0 W->W.cell? ⟨w.heap.size,2,none⟩=some (.slice P0 p.nodes.length gL):=ad (by rw[au];simp)
 have pT:∀W,aa w0 W->W.cell? ⟨w.heap.size,3,none⟩=some (.slice P1 p.aad.length g8):=ad (by rw[au];simp)
 have vj:∀W,aa w0 W->W.cell? ⟨w.heap.size+1,0,none⟩=some (.slice A n.ends.length c):=ad (by rw[au];simp)
 have C7:∀W,aa w0 W->W.cell? ⟨w.heap.size+1,1,none⟩=some (.slice A2 n.ids.length c2):=ad (by rw[au];simp)
 have C8:∀W,aa w0 W->W.cell? ⟨w.heap.size+1,2,none⟩=some (.slice A3 n.aaa.length c3):=ad (by rw[au];simp)
 have aY:=zh bO;have bM:=zh au;have HA:=zh hA;clear hA h;clear bO au;have HL:=zh (show ∀X,aa w0 X->bw X vl l from fun X hX=>(hl.aab aY.out).aab hX.below)
 have qi:=zh (show ∀X,aa w0 X->aI X (.slice A n.ends.length c) (.slice A2 n.ids.length c2) (.slice A3 n.aaa.length c3) n from fun X hX=>H.out.aab hX.below)
 have ma:=zh (show ∀X,aa w0 X->el X (.slice P0 p.nodes.length gL) (.slice P1 p.aad.length g8) p from fun X hX=>HP.out.aab hX)
 obtain⟨AL,cL,rfl,-,-,-⟩:=hl;have aX:aa w0 w0:=ab _;obtain⟨q1,lQ⟩:∃z,eA p=z:=⟨_,rfl⟩
 obtain⟨q2,xF⟩:∃z,aw n=z:=⟨_,rfl⟩
 obtain⟨q3,JH⟩:∃z,di p n l=z:=⟨_,rfl⟩
 obtain⟨ok,dR⟩:∃z,eo p n l=z:=⟨_,rfl⟩
 have E7:ok=(q1&&q2&&q3):=by rw[<- dR];unfold eo;rw[lQ,xF,JH]
 rw[dR];obtain⟨sz,dM⟩:∃z,jF p n l=z:=⟨_,rfl⟩
 rw[dM];have li:=zh dM;clear dM;have RN:=zh lQ;have Vn:=zh xF;have Vo:=zh JH;have Es:=zh E7;clear lQ xF JH dR E7
 go_enter Tryz.func16,Tryz.ntmps16
 go_upto_region 1 with(fail);rw[<- bM.out];go_wp2_with fail;refine(iw _ _ p w0 (ma.out w0 aX)).mono ?_;rw[RN.out];rintro e w1 ⟨rfl,aJ⟩;have bu:aa w0 w1:=aJ;clear aJ aX;cases q1
 ·have iu:=zh bu
  have Hf:Hid (ok=false):=by show _=_;rw[Es.out];rfl
  clear bu;go_wp2
  go_ret2
  exact⟨x7 (by rw[Hf.out];rfl) Hf.out.symm,aa.after aY.out iu.out⟩
 go_wp2_with fail;refine(dK _ _ _ n w1 (qi.out w1 bu) qh).mono ?_;rw[Vn.out];rintro e w2 ⟨rfl,hb2⟩;have dS:aa w0 w2:=bu.after (show aa w1 w2 from hb2);clear hb2 bu;cases q2
 ·have iu:=zh dS
  have Hf:Hid (ok=false):=by show _=_;rw[Es.out];rfl
  clear dS;go_wp2
  go_ret2
  exact⟨x7 (by rw[Hf.out];rfl) Hf.out.symm,aa.after aY.out iu.out⟩
 go_wp2_with fail;refine(pN _ _ _ _ _ _ p n l w2 (ma.out w2 dS) (qi.out w2 dS) (HL.out w2 dS) (jj RN.out).1).mono ?_;rw[Vo.out];rintro e w3 ⟨rfl,aZ⟩;have g_:aa w0 w3:=dS.after (show aa w2 w3 from aZ);clear aZ dS;cases q3
 ·have iu:=zh g_
  have Hf:Hid (ok=false):=by show _=_;rw[Es.out];rfl
  clear g_;go_wp2
  go_ret2
  exact⟨x7 (by rw[Hf.out];rfl) Hf.out.symm,aa.after aY.out iu.out⟩
 have RO:=pO _ _ _ _ _ _ p n l w3 (ma.out w3 g_) (qi.out w3 g_) (HL.out w3 g_) RN.out Vn.out Vo.out zp;rw[li.out]at RO;have Zp:=zh RO
 have Hf:Hid (ok=true):=by show _=_;rw[Es.out];rfl
 clear RO;go_wp2_with fail;refine Zp.out.mono ?_;rintro e w4 ⟨⟨x,y,rfl⟩,my⟩;have vF:=zh (g_.after (show aa w3 w4 from my));clear my g_;go_wp2
 go_ret2
 exact⟨x7 (by rw[Hf.out];simp) Hf.out.symm,aa.after aY.out vF.out⟩
def fC (p:aN) (n:am) (most:Int):List (List Int):=aD p n (dc n) most
def fD (p:aN) (n:am) (most:Int):Int:=av p n (dc n) most
def fE (p:aN) (n:am) (most:Int):Int:=bn p n (dc n) most
theorem ky (pa pb ve vi vn:Value) (p:aN) (n:am) (most:Int) (w:World) (hp:el w pa pb p) (h:aI w ve vi vn n) (hm : -9223372036854775808<=most/\most<=9223372036854775807) (zp:rA p<=1048576) (dM:ij n<=1048576):
  Calls Tryz.prog 17 #[.agg #[.int .i64 p.labels,.int .i64 p.degree,pa,pb],.agg #[ve,vi,vn],.int .i64 most] w fun e w'=>∃u S,e=.returned (.tuple #[u,.int .i64 (fD p n most),.int .i64 (fE p n most)])/\dU w' w.heap.size u (fC p n most) S/\Below w.heap.size w w':=by
 have FA:=zh (iG dM);have li:=zh dM;have Zq:=zh zp;have Pr:=zh hm
 unfold fC fD fE
 obtain⟨F,hF⟩:∃F,dc n=F:=⟨_,rfl⟩
 rw[hF];have HF:=zh hF;clear hF;obtain⟨w0,au⟩:∃w0,w0=((w).alloc (.cells #[.int .i64 p.labels,.int .i64 p.degree,pa,pb] 40)).alloc (.cells #[ve,vi,vn] 27):=⟨_,rfl⟩
 have bO:Below w.heap.size w w0:=by rw[au];exact(((Below.refl _ _).alloc (by simp <;> omega) _).alloc (by simp <;> omega) _)
 have H:=zh (h.aab bO);obtain⟨h1,h2,h3⟩:=h.aab bO;obtain⟨A,c,rfl,er,hm,hA⟩:=h1;obtain⟨A2,c2,rfl,_,et,_⟩:=h2;obtain⟨A3,c3,rfl,_,fG,_⟩:=h3;unfold maxLen at hm et fG;have dV:=hp.aab bO;have HP:=zh dV;obtain⟨P0,gL,rfl,lJ,fw,cH⟩:=id dV.1;unfold maxLen at fw;have lK:=zh cH;clear cH;obtain⟨P1,g8,rfl,lL,fx,cJ⟩:=id dV.2;unfold maxLen at fx;have lM:=zh cJ;clear cJ;clear dV hp
 have e8:∀W,aa w0 W->W.cell? ⟨w.heap.size,0,none⟩=some (.int .i64 p.labels):=ad (by rw[au];simp)
 have fh:∀W,aa w0 W->W.cell? ⟨w.heap.size,1,none⟩=some (.int .i64 p.degree):=ad (by rw[au];simp)
 have fi:∀W,aa w0 W->W.cell? ⟨w.heap.size,2,none⟩=some (.slice P0 p.nodes.length gL):=ad (by rw[au];simp)
 have pT:∀W,aa w0 W->W.cell? ⟨w.heap.size,3,none⟩=some (.slice P1 p.aad.length g8):=ad (by rw[au];simp)
 have vj:∀W,aa w0 W->W.cell? ⟨w.heap.size+1,0,none⟩=some (.slice A n.ends.length c):=ad (by rw[au];simp)
 have C7:∀W,aa w0 W->W.cell? ⟨w.heap.size+1,1,none⟩=some (.slice A2 n.ids.length c2):=ad (by rw[au];simp)
 have C8:∀W,aa w0 W->W.cell? ⟨w.heap.size+1,2,none⟩=some (.slice A3 n.aaa.length c3):=ad (by rw[au];simp)
 have aY:=zh bO;have bM:=zh au;have HA:=zh hA;clear hA h;clear bO au;have ma:=zh (show ∀X,aa w0 X->el X (.slice P0 p.nodes.length gL) (.slice P1 p.aad.length g8) p from fun X hX=>HP.out.aab hX)
 have qi:=zh (show ∀X,aa w0 X->aI X (.slice A n.ends.length c) (.slice A2 n.ids.length c2) (.slice A3 n.aaa.length c3) n from fun X hX=>H.out.aab hX.below)
 clear dM zp hm
 go_enter Tryz.func17,Tryz.ntmps17
 go_upto_region 1 with(fail);rw[<- bM.out];have hs:aa w0 w0:=ab _;go_wp2_with fail;refine(dK _ _ _ n _ (qi.out _ hs) FA.out).mono ?_;rintro e W1 ⟨rfl,hb⟩
 replace hs:aa w0 W1:=hs.trans hb
 clear hb;cases hg:aw n
 ·have hk:jS p n F most=false:=by unfold jS;rw[hg];cases eA p <;> simp
  obtain⟨h0,h1,h2⟩:=Fz hk;have HW:=zh hs;have H0:=zh h0;have H1:=zh h1;have H2:=zh h2;clear hs h0 h1 h2 hg hk;go_wp2
  go_ret3
  rw[H0.out,H1.out,H2.out];exact⟨_,_,rfl,iP _ _,aa.after aY.out HW.out⟩
 ·obtain⟨yM,mz⟩:=o8 hg;have uC:=zh mz;have FB:w.heap.size<=w0.heap.size:=aY.out.size;clear mz hg;go_upto_region 3 with(fail);refine kx (w0:=w0) 6 [false,false,false,true,false,true] (by kernel_rfl) (by kernel_rfl) (hs) ?_;simp only[df,b8,zT]
  iterate 4 (apply ek rfl;(intro W hW;go_simp;with_reducible rfl);simp only[zA])
  obtain⟨W,bB⟩:∃W,W=World.drew W1:=⟨_,rfl⟩
  rw[<- bB]
  have hW:aa w0 W:=by rw[bB];exact ah (hs)
  clear bB;refine Or.inl ⟨rfl,?_⟩
  go_simp
  (with_reducible refine(qf _ _ _ n _ (qi.out _ hW) (by omega) (fun v es hv=>Nat.le_trans (uC.out v es hv) (by omega))).mono ?_)
  rintro e W' ⟨u1,S1,rfl,gu,aJ⟩;refine⟨_,rfl,hW.trans aJ,?_⟩
  replace hW:=hW.trans aJ
  obtain⟨AU,mU,cU,rfl⟩:=bA.one gu;have FC:=zh (HF.out ▸ gu.read);have Zr:Hid (w.heap.size<=W'.heap.size):=Nat.le_trans FB (aa.below hW).size;clear gu aJ
  (try simp only[zA])
  refine Or.inl ⟨rfl,?_⟩
  go_simp
  (with_reducible refine(vD _ _ _ _ _ _ p n F most _ (ma.out _ hW) (qi.out _ hW) FC.out Pr.out Zq.out li.out).mono ?_)
  rintro e W' ⟨uR,SR,rfl,RP,RQ⟩;refine⟨_,rfl,hW.trans RQ,?_⟩
  replace hW:=hW.trans RQ
  obtain⟨AR,mR,cR,rfl⟩:=bA.one RP;have Zs:=zh (bA.mono RP Zr.out);clear RP RQ
  (try simp only[zA])
  have Zt:=zh hW;refine⟨fun W=>aa W' W,ab _,?_⟩
  iterate 6 (refine cY rfl ?_;simp only[zA])
  clear hW;intro W hW;have HW:=zh hW;clear hW hs;go_wp2
  go_ret3
  exact⟨_,_,rfl,bA.aab Zs.out HW.out.below,aa.after aY.out (Zt.out.after HW.out)⟩
end Go.Proofs.YtgjggeapebbcbaaGreat
