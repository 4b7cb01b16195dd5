/- Parts of the proof: walks of functions and plain laws. -/
import Derived.Test.YtgmdpppljkmabaaGreatQ0
import Derived.Test.YtgmdpppljkmabaaGreatQ1
import Derived.Test.YtgmdpppljkmabaaGreatQ22
import Derived.Lib.BitFns
import Derived.Test.YtgmdpppljkmabaaGreatQ6
import Derived.Test.YtgmdpppljkmabaaGreatQ7
set_option maxRecDepth 100000
set_option maxHeartbeats 16000000
namespace Go.Proofs.YtgmdpppljkmabaaGreat
open Go Go.RowKit
theorem lH (ve vi vn:Value) (n:ak) (s:Int) (vl:Value) (ls:List Int) (v aU:Int) (w:World) (h:aQ w ve vi vn n) (_ : -9223372036854775808<=s/\s<=9223372036854775807) (hl:aY w vl ls) (_ : -9223372036854775808<=v/\v<=9223372036854775807) (_ : -9223372036854775808<=aU/\aU<=9223372036854775807) (eP:iK n<=1048576) (aet:ls.length<=1048576):
  Calls Tryz.prog 37 #[.agg #[ve,vi,vn],.int .i64 s,vl,.int .i64 v,.int .i64 aU] w fun e w'=>∃u,e=.returned (.tuple #[u,.bool (bm n s ls v aU)])/\Own w' w.heap.size u (bJ n s ls v aU)/\Below w.heap.size w w':=by
 obtain⟨w0,A,c,A2,c2,A3,c3,rfl,rfl,rfl,eV,hm,fJ,fB,HA,bK,aT,H,dL,dR,dU⟩:=zB h;clear h
 have HL:=zh (hl.keep aT.out);obtain⟨AL,cL,rfl,yX,nz,_⟩:=hl;unfold maxLen at nz
 go_enter Tryz.func37,Tryz.ntmps37
 go_upto_region 1 with(fail);rw[<- bK.out];refine aS 16 (aa w0) (ad _) ?_;simp only[zT]
 iterate 3 (refine bU rfl ?_;simp only[zA])
 refine fI ?_ rfl ?_ ?_;rotate_left;(intro W hW;unfold dr;go_simp;(with_reducible refine(jx _ _ _ _ n s ls W (H.out.keep hW.below) (HL.out.keep hW.below) eP).mono ?_);rintro e W' ⟨rfl,bN⟩;first | (refine⟨?_,aa.trans hW bN⟩;with_reducible rfl) | (subst bN;refine⟨?_,hW⟩;with_reducible rfl))
 simp only[zA]
 iterate 2 (refine bU rfl ?_;simp only[zA])
 iterate 2 (refine im rfl rfl ?_;simp only[zA])
 refine dA (v:=?_) rfl rfl ?_ ?_;rotate_left;(intro hb;intro W hW;unfold dr;go_simp;(with_reducible refine(Kt _ _ _ n.ends v W (H.out.keep hW.below).es).mono ?_);rintro e W' ⟨rfl,bN⟩;first | (refine⟨?_,aa.trans hW bN⟩;with_reducible rfl) | (subst bN;refine⟨?_,hW⟩;with_reducible rfl))
 simp only[zA]
 refine im rfl rfl ?_;simp only[zA]
 (first | refine dO rfl rfl ?_ | (refine bU rfl ?_));simp only[zA]
 refine bU rfl ?_;simp only[zA]
 refine im rfl rfl ?_;simp only[zA]
 refine dA (v:=?_) rfl rfl ?_ ?_;rotate_left;(intro hb;intro W hW;unfold dr;go_simp;(with_reducible refine(aO _ _ _ W).mono ?_);rintro e W' ⟨rfl,bN⟩;first | (refine⟨?_,aa.trans hW bN⟩;with_reducible rfl) | (subst bN;refine⟨?_,hW⟩;with_reducible rfl))
 simp only[zA]
 refine im rfl rfl ?_;simp only[zA]
 (first | refine dO rfl rfl ?_ | (refine bU rfl ?_));simp only[zA]
 intro W hW
 cases hg:(!dY n s ls || !vU n.ends v || !ey 0 1000 aU)
 ·simp only[Bool.or_eq_false_iff,Bool.not_eq_false',IL,vU,Bool.and_eq_true]at hg;have g1:=hg.1.1;have g2:ey 0 ((n.ends.length:Int)-1) v=true:=by first | exact hg.1.2 | exact hg.1.2.2
  have g3:=hg.2;have hr:bm n s ls v aU=true:=by simp[bm,g1,g2,g3]
  have hv:=ap.1 g2;have yN:=ap.1 g3;obtain⟨k,rfl⟩:=Int.eq_ofNat_of_zero_le hv.1;obtain⟨mo,rfl⟩:=Int.eq_ofNat_of_zero_le yN.1;obtain⟨-,hln,ad6⟩:=mL g1;have Hr:=zh hr;have Hd:=zh (show bJ n s ls k mo=fc (zu n s ls k) (gK (mo+1))by simp[bJ,hr])
  have nq:=zh g1;have MF:k<ls.length:=by omega
  have ad7:mo<=1000:=by omega
  have tB:ls.length<=40:=by omega
  have NE:=zh hln;have HW:=zh hW;clear hg g1 g2 g3 hr hv yN hln hW;go_wp2_with fail;refine(zL _ ls W (HL.out.keep HW.out.below) (by omega)).mono ?_;rintro e W1 ⟨u1,rfl,dT,ay⟩;rcases dT.cases with⟨-,e1⟩ | ⟨g,c1,rfl,iH,lh⟩
  ·simp[e1]at MF
  have aaM:aa w0 W1:=HW.out.trans ay;have hgw:w0.heap.size<=g:=Nat.le_trans (aa.below HW.out).size iH;have MO:=zh (dT.mono (aa.below HW.out).size);have acN:=zh aaM;clear dT ay iH lh aaM;go_wp2
  go_loopw [13,35] (fun u i wr=>∃(j:Nat) (ys:List Int),j<=mo+1/\i=.int .i64 j/\Own wr w0.heap.size u (fc (zu n s ls k) (gK j))/\Own wr w0.heap.size (.slice (some ⟨g,0,none⟩) ls.length c1) ys/\(∀x,ys.set k x=ls.set k x)/\u.ownBlock≠some g/\aa w0 wr) (fun _ i _=>mo+1-(intOf i).toNat)
  case atStart=>exact⟨0,ls,Nat.zero_le _,rfl,by simpa[fc,gK]using bH _ w0.heap.size,MO.out,fun _=>rfl,by simp[Value.ownBlock],acN.out⟩
  case round=>
   obtain⟨j,ys,hj,rfl,ho,VV,w_,gM,hs⟩:=hrel;have Ho:=zh ho;have Hoy:=zh VV;have Hys:=zh w_;have DK:=zh gM;have IN:ys.length=ls.length:=VV.len
   by_cases hlt:j<=mo
   ·obtain⟨y,hy⟩:=aM ys k (by omega);have cz:=VV.cell hy;have fz:=VV.free k;have dV:=VV.set (k:=k) (j:Int);rw[w_]at dV;have JU:=zh dV;have EZ:=zh (H_ (k:=k) ho gM (.int .i64 (j:Int)));have b_:=zh (show aa w0 (wr.setCell ⟨g,k,none⟩ (.int .i64 (j:Int)))from Below.setCell hs hgw _);obtain⟨wz,NO⟩:∃wz,wz=wr.setCell ⟨g,k,none⟩ (.int .i64 (j:Int)):=⟨_,rfl⟩
    rw[<- NO]at JU EZ b_;have R7:aa w0 wz:=b_.out
    obtain⟨es,l,gV,jI,a1,a2,a3,a4,a5,a6,a7,a8,a9,SX⟩:=Gj (Lp nq.out k (j:Int) (by omega) (by omega)) (k:=k) (by have:=NE.out;omega)
    have HA:=zh (And.intro a3 (And.intro a5 (And.intro a6 (And.intro a7 (And.intro a8 (And.intro a9 SX))))))
    have cJ:Hid ((fc (zu n s ls k) (gK j)).length+1<=17592186044416):=by
     have:=vM (zu n s ls k) (gK j)
     rw[fM]at this;show _<=_
     omega
    have Hwz:=zh NO;clear ho VV w_ gM hy dV a3 a5 a6 a7 a8 a9 SX NO;go_upto_region 9 with(fail);rw[<- Hwz.out];clear cz fz hs;go_wp2_with fail;refine(uG _ _ _ _ n s (ls.set k (j:Int)) k es l gV jI _ (H.out.keep R7.below) (by exact JU.out.ints) a1 a2 HA.out.1 a4 HA.out.2.1 HA.out.2.2.1 HA.out.2.2.2.1 HA.out.2.2.2.2.1 HA.out.2.2.2.2.2.1).mono ?_;rw[<- HA.out.2.2.2.2.2.2];rintro e W2 ⟨rfl,bj⟩;have d_:=aa.trans R7 bj;have eX:=zh (EZ.out.keep bj);have VW:=zh (JU.out.keep bj);have lh:g<W2.heap.size:=(VW.out.blk).2;cases hp:fR n s (ls.set k (j:Int)) k
    ·have Hp:=zh (show zu n s ls k (j:Int)=true by simp[zu,hp])
     clear R7 bj hp;go_wp2;go_roundw
     case rel=>exact⟨j+1,ls.set k j,by omega,by go_num,by rw[nJ,Hp.out];simpa using eX.out,by have:=VW.out;exact this,fun x=>by rw[List.set_set],DK.out,d_⟩
     case measure=>simp[intOf];omega
    ·have Hp:=zh (show zu n s ls k (j:Int)=false by simp[zu,hp])
     clear R7 bj hp
     go_wp2_with (at_builtin;refine lZ rfl _ _ rfl rfl (eX.out.since (ag _ (ad _))) W2.heap.size j rfl (by simp[go_sem]) cJ.out (by have:=d_.below.size;simp;omega) ?_;intro g3 cc w3 eH SV VX _)
     change World.grownBy _ w3 (Value.ownBlock u13)at SV
     change (Value.ownBlock u13=some g3\/g3=_)at VX
     have i8:=zh eH
     have acO:Hid (Own w3 w0.heap.size (.slice (some ⟨g,0,none⟩) ls.length c1) (ls.set k (j:Int))):=Own.grown (VW.out.keep (am W2 _)) SV (fun q hq e=>by simp[Value.ownBlock]at hq;subst hq;exact DK.out e)
     have acP:Hid (g3≠g):=by
      rcases VX with e | e
      ·exact fun e2=>DK.out (by rw[e,e2])
      ·simp at e;exact fun e2=>by omega
     have ew:Hid (aa w0 w3):=Below.grown (show Below w0.heap.size w0 _ from ag _ d_) SV (by have:=d_.below.size;simp;omega) (fun q hq=>(World.ownsRow.lt eX.out q hq).1)
     clear eH SV VX d_;go_wp2;go_roundw
     case rel=>exact⟨j+1,ls.set k j,by omega,by go_num,by rw[nJ,Hp.out];exact i8.out,acO.out,fun x=>by rw[List.set_set],by simpa[Value.ownBlock]using acP.out,ew.out⟩
     case measure=>simp[intOf];omega
   ·obtain rfl:j=mo+1:=by omega
    clear ho VV w_ gM IN;go_wp2
    go_ret2
    exact⟨_,congrArg (fun b=>Ending.returned (.tuple #[_,.bool b])) Hr.out.symm,by rw[Hd.out];exact Ho.out.mono aT.out.size,aa.after aT.out hs⟩
 ·have Hr:=zh (show bm n s ls v aU=false by
   simp only[Bool.or_eq_true,Bool.not_eq_true',IL,vU,Bool.and_eq_false_iff]at hg
   unfold bm dY
   rcases hg with(hg | hg) | hg
   ·unfold dY at hg;simp[hg]
   ·simp[hg]
   ·simp[hg])
  have HW:=zh hW;clear hg hW;go_wp2
  go_ret2
  exact⟨_,congrArg (fun b=>Ending.returned (.tuple #[_,.bool b])) Hr.out.symm,by rw[show bJ n s ls v aU=[]by simp[bJ,Hr.out]];exact bH _ _,aa.after aT.out HW.out⟩
def bl (n:Nat):Nat:=if n=0 then 0 else bl (n/2)+1
theorem Ci {n:Nat} (h:0<n):bl n=bl (n/2)+1:=by rw[bl,if_neg (by omega)]
theorem s8:bl 0=0:=by rw[bl];simp
theorem JF {m n:Nat} (h:m<=n):bl m<=bl n:=by
 induction n using Nat.strongRecOn generalizing m with
 | ind n ih=>
  by_cases h0:m=0
  ·subst h0;rw[s8];omega
  ·rw[Ci (show 0<m by omega),Ci (show 0<n by omega)]
   have:=ih (n/2) (by omega) (show m/2<=n/2 by omega)
   omega
theorem VY (m n:Nat):bl (max m n)=max (bl m) (bl n):=by
 rcases Nat.le_total m n with h | h
 ·have:=JF h;rw[Nat.max_eq_right h,Nat.max_eq_right this]
 ·have:=JF h;rw[Nat.max_eq_left h,Nat.max_eq_left this]
def mf (xs:List Int):Int:=xs.foldl max 0
theorem Ia (xs:List Int) (x:Int):mf (xs++[x])=max (mf xs) x:=by simp[mf,List.foldl_append]
def qU (xs:List Int):Int×Bool:=if xs.length<=40/\xs.all (ey 0 999999999999)=true then ((bl (mf xs).toNat:Nat),true) else (0,false)
theorem Lq (x:Nat) (h:x<2^64):Lib.bitLen x=bl x:=by
 induction x using Nat.strongRecOn with
 | ind x ih=>
  by_cases h0:x=0
  ·subst h0;rw[s8];rfl
  ·rw[Lib.bitLen_half x h0 h,Ci (by omega),ih (x/2) (by omega) (by omega)];omega
def AW:Prop:=∀(x:Int) (w:World),0<=x->x<=18446744073709551615->Calls Tryz.prog 107 #[.int .u64 x] w fun e w'=>e=.returned (.int .i64 (Lib.bitLen x.toNat))/\w'=w
theorem Cj (h64:AW) (v:Value) (xs:List Int) (w:World) (h:aY w v xs):
  Calls Tryz.prog 35 #[v] w fun e w'=>e=.returned (.tuple #[.int .i64 (qU xs).1,.bool (qU xs).2])/\Below w.heap.size w w':=by
 have H:=zh h;obtain⟨A,c,rfl,eV,hm,hA⟩:=h;unfold maxLen at hm;have HA:=zh hA;clear hA
 by_cases hl:xs.length<=40
 ·cases ha:xs.all (ey 0 999999999999)
  ·have hr:qU xs=(0,false):=by simp[qU,ha]
   rw[hr];clear hr
   go_enter Tryz.func35,Tryz.ntmps35
   go_wp2_with fail;refine(jZ _ xs _ _ _ H.out).mono ?_;rintro e w1 ⟨rfl,ay⟩;have eD:=zh ay;clear ay;go_wp2
   go_ret2
   exact⟨rfl,eD.out⟩
  ·have hr:qU xs=(((bl (mf xs).toNat:Nat):Int),true):=by simp[qU,ha,hl]
   rw[hr];clear hr;have iV:=zh (fun x hx=>ap.1 (List.all_eq_true.1 ha x hx))
   go_enter Tryz.func35,Tryz.ntmps35
   go_wp2_with fail;refine(jZ _ xs _ _ _ H.out).mono ?_;rintro e w1 ⟨rfl,ay⟩;have eD:=zh ay;clear ay;go_wp2
   go_loop [4,17] (fun m i=>∃k:Nat,k<=xs.length/\i=.int .i64 k/\m=.int .i64 (bl (mf (xs.take k)).toNat:Nat)) (fun _ i=>xs.length-(intOf i).toNat)
   case atStart=>exact⟨0,Nat.zero_le _,rfl,by simp[mf,s8]⟩
   case round=>
    obtain⟨k,hk,rfl,rfl⟩:=hrel
    by_cases hlt:k<xs.length
    ·obtain⟨x,hx⟩:=aM xs k hlt;obtain⟨b,off,rfl,fj⟩:=HA.out k x hx;have Mn:=(eD.out.cell (p:=⟨b,off+k,none⟩) (World.block_lt_of_cell? w _ fj)).trans fj;obtain⟨tr,tp⟩:=iV.out x (List.mem_of_getElem? hx)
     have hm:(bl (mf (xs.take (k+1))).toNat:Int)=max (bl (mf (xs.take k)).toNat:Int) (bl x.toNat:Int):=by
      rw[bh hx,Ia,show(max (mf (xs.take k)) x).toNat=max (mf (xs.take k)).toNat x.toNat by omega,VY]
      omega
     have Hm:=zh hm;have vc:=zh (Lq x.toNat (by omega));clear hx hm fj
     generalize bl (mf (xs.take k)).toNat=m at *
     go_wp2_with fail;refine(h64 x _ tr (by omega)).mono ?_;rintro e w2 ⟨rfl,rfl⟩;rw[vc.out]
     generalize bl x.toNat=y at *
     go_wp2
     go_round
     case rel=>exact⟨k+1,by omega,by go_num,by rw[Hm.out];try (congr 1;split <;> omega)⟩
     case measure=>simp[intOf];omega
    ·have hts:=jo xs hlt;rw[hts];go_wp2
     go_ret2
     exact⟨rfl,eD.out⟩
 ·have hr:qU xs=(0,false):=by simp[qU,hl]
  rw[hr];clear hr
  go_enter Tryz.func35,Tryz.ntmps35
  go_wp2
  go_ret2
  exact⟨rfl,Below.refl _ _⟩
def mz (a b c d:Int):Int×Bool:=if (ey 0 999999999999 a&&ey 0 99 b&&ey 0 9 c&&ey 0 1 d&&ey 0 999999999999 (((a*100+b)*10+c)*2+d))=true then (((a*100+b)*10+c)*2+d,true) else (0,false)
def tT (a b:Int):Int×Bool:=if (ey 0 999999999999 a&&ey 0 99 b&&ey 0 999999999999 (a*100+b))=true then (a*100+b,true) else (0,false)
def zw (a:Int):Int×Bool:=if (ey 0 999999999999 a)=true then (a,true) else (0,false)
theorem Ib (v:Value) (a b c d:Int) (w:World) (h:aY w v [a,b,c,d]):
  Calls Tryz.prog 39 #[.int .i64 5,v] w fun e w'=>e=.returned (.tuple #[.int .i64 (mz a b c d).1,.bool (mz a b c d).2])/\Below w.heap.size w w':=by
 have hV:=h;obtain⟨B,off,cp,rfl,hB,d9⟩:=h.lit;have c0:=d9 0 a rfl;have c1:=d9 1 b rfl;have c2:=d9 2 c rfl;have c3:=d9 3 d rfl;clear d9 h;simp only[Nat.add_zero]at c0;have HV:=zh hV;clear hV;have hZ:ey 1 5 5=true:=by decide
 cases t0:ey 0 999999999999 a
 ·skip
  have hr:mz a b c d=(0,false):=by unfold mz;rw[if_neg];have t:=jq.1 t0;simp only[Bool.and_eq_true,ap]at *;omega
  rw[hr];clear hr
  go_enter Tryz.func39,Tryz.ntmps39
  go_wp2_with (first | (go_at_call 69;refine(ax _ _).mono ?_;rintro e w' ⟨rfl,rfl⟩) | (go_at_call 70;refine(ao _ _).mono ?_;rintro e w' ⟨rfl,rfl⟩) | (go_at_call 71;refine(aO _ _ _ _).mono ?_;rintro e w' ⟨rfl,rfl⟩))
  refine(bY _ _).mono ?_;rintro e w1 ⟨u1,rfl,dT,ay⟩;obtain⟨g1,Lr,rfl,iH,yl,ym,eC⟩:=Own.lit (show Own w1 _ u1 (100::[10,2])from dT);have Pp:=eC 0 100 rfl;have VZ:=eC 1 10 rfl;have V0:=eC 2 2 rfl;clear eC;have Ls:=(ay.cell (p:=⟨B,off,none⟩) hB).trans c0;have I8:=(ay.cell (p:=⟨B,off+1,none⟩) hB).trans c1;have V3:=(ay.cell (p:=⟨B,off+2,none⟩) hB).trans c2;have V4:=(ay.cell (p:=⟨B,off+3,none⟩) hB).trans c3;have eD:=zh ay;clear dT ay
  go_wp2_with (first | (go_at_call 69;refine(ax _ _).mono ?_;rintro e w' ⟨rfl,rfl⟩) | (go_at_call 70;refine(ao _ _).mono ?_;rintro e w' ⟨rfl,rfl⟩) | (go_at_call 71;refine(aO _ _ _ _).mono ?_;rintro e w' ⟨rfl,rfl⟩))
  go_ret2
  exact⟨rfl,eD.out⟩
 ·skip;cases t1:ey 0 99 b
  ·skip;have b0:=ap.1 t0
   have hr:mz a b c d=(0,false):=by unfold mz;rw[if_neg];have t:=jq.1 t1;simp only[Bool.and_eq_true,ap]at *;omega
   rw[hr];clear hr
   go_enter Tryz.func39,Tryz.ntmps39
   go_wp2_with (first | (go_at_call 69;refine(ax _ _).mono ?_;rintro e w' ⟨rfl,rfl⟩) | (go_at_call 70;refine(ao _ _).mono ?_;rintro e w' ⟨rfl,rfl⟩) | (go_at_call 71;refine(aO _ _ _ _).mono ?_;rintro e w' ⟨rfl,rfl⟩))
   refine(bY _ _).mono ?_;rintro e w1 ⟨u1,rfl,dT,ay⟩;obtain⟨g1,Lr,rfl,iH,yl,ym,eC⟩:=Own.lit (show Own w1 _ u1 (100::[10,2])from dT);have Pp:=eC 0 100 rfl;have VZ:=eC 1 10 rfl;have V0:=eC 2 2 rfl;clear eC;have Ls:=(ay.cell (p:=⟨B,off,none⟩) hB).trans c0;have I8:=(ay.cell (p:=⟨B,off+1,none⟩) hB).trans c1;have V3:=(ay.cell (p:=⟨B,off+2,none⟩) hB).trans c2;have V4:=(ay.cell (p:=⟨B,off+3,none⟩) hB).trans c3;have eD:=zh ay;clear dT ay
   go_wp2_with (first | (go_at_call 69;refine(ax _ _).mono ?_;rintro e w' ⟨rfl,rfl⟩) | (go_at_call 70;refine(ao _ _).mono ?_;rintro e w' ⟨rfl,rfl⟩) | (go_at_call 71;refine(aO _ _ _ _).mono ?_;rintro e w' ⟨rfl,rfl⟩))
   refine wp_loop_rounds 4 ?_
   iterate 1
    rw[rounds_succ]
    go_wp2_with (first | (go_at_call 69;refine(ax _ _).mono ?_;rintro e w' ⟨rfl,rfl⟩) | (go_at_call 70;refine(ao _ _).mono ?_;rintro e w' ⟨rfl,rfl⟩) | (go_at_call 71;refine(aO _ _ _ _).mono ?_;rintro e w' ⟨rfl,rfl⟩))
   go_ret2
   exact⟨rfl,eD.out⟩
  ·skip;cases t2:ey 0 999999999999 (a*100+b)
   ·skip;have b0:=ap.1 t0;have b1:=ap.1 t1
    have hr:mz a b c d=(0,false):=by unfold mz;rw[if_neg];have t:=jq.1 t2;simp only[Bool.and_eq_true,ap]at *;omega
    rw[hr];clear hr
    go_enter Tryz.func39,Tryz.ntmps39
    go_wp2_with (first | (go_at_call 69;refine(ax _ _).mono ?_;rintro e w' ⟨rfl,rfl⟩) | (go_at_call 70;refine(ao _ _).mono ?_;rintro e w' ⟨rfl,rfl⟩) | (go_at_call 71;refine(aO _ _ _ _).mono ?_;rintro e w' ⟨rfl,rfl⟩))
    refine(bY _ _).mono ?_;rintro e w1 ⟨u1,rfl,dT,ay⟩;obtain⟨g1,Lr,rfl,iH,yl,ym,eC⟩:=Own.lit (show Own w1 _ u1 (100::[10,2])from dT);have Pp:=eC 0 100 rfl;have VZ:=eC 1 10 rfl;have V0:=eC 2 2 rfl;clear eC;have Ls:=(ay.cell (p:=⟨B,off,none⟩) hB).trans c0;have I8:=(ay.cell (p:=⟨B,off+1,none⟩) hB).trans c1;have V3:=(ay.cell (p:=⟨B,off+2,none⟩) hB).trans c2;have V4:=(ay.cell (p:=⟨B,off+3,none⟩) hB).trans c3;have eD:=zh ay;clear dT ay
    go_wp2_with (first | (go_at_call 69;refine(ax _ _).mono ?_;rintro e w' ⟨rfl,rfl⟩) | (go_at_call 70;refine(ao _ _).mono ?_;rintro e w' ⟨rfl,rfl⟩) | (go_at_call 71;refine(aO _ _ _ _).mono ?_;rintro e w' ⟨rfl,rfl⟩))
    refine wp_loop_rounds 4 ?_
    iterate 1
     rw[rounds_succ]
     go_wp2_with (first | (go_at_call 69;refine(ax _ _).mono ?_;rintro e w' ⟨rfl,rfl⟩) | (go_at_call 70;refine(ao _ _).mono ?_;rintro e w' ⟨rfl,rfl⟩) | (go_at_call 71;refine(aO _ _ _ _).mono ?_;rintro e w' ⟨rfl,rfl⟩))
    go_ret2
    exact⟨rfl,eD.out⟩
   ·skip;cases t3:ey 0 9 c
    ·skip;have b0:=ap.1 t0;have b1:=ap.1 t1;have b2:=ap.1 t2
     have hr:mz a b c d=(0,false):=by unfold mz;rw[if_neg];have t:=jq.1 t3;simp only[Bool.and_eq_true,ap]at *;omega
     rw[hr];clear hr
     go_enter Tryz.func39,Tryz.ntmps39
     go_wp2_with (first | (go_at_call 69;refine(ax _ _).mono ?_;rintro e w' ⟨rfl,rfl⟩) | (go_at_call 70;refine(ao _ _).mono ?_;rintro e w' ⟨rfl,rfl⟩) | (go_at_call 71;refine(aO _ _ _ _).mono ?_;rintro e w' ⟨rfl,rfl⟩))
     refine(bY _ _).mono ?_;rintro e w1 ⟨u1,rfl,dT,ay⟩;obtain⟨g1,Lr,rfl,iH,yl,ym,eC⟩:=Own.lit (show Own w1 _ u1 (100::[10,2])from dT);have Pp:=eC 0 100 rfl;have VZ:=eC 1 10 rfl;have V0:=eC 2 2 rfl;clear eC;have Ls:=(ay.cell (p:=⟨B,off,none⟩) hB).trans c0;have I8:=(ay.cell (p:=⟨B,off+1,none⟩) hB).trans c1;have V3:=(ay.cell (p:=⟨B,off+2,none⟩) hB).trans c2;have V4:=(ay.cell (p:=⟨B,off+3,none⟩) hB).trans c3;have eD:=zh ay;clear dT ay
     go_wp2_with (first | (go_at_call 69;refine(ax _ _).mono ?_;rintro e w' ⟨rfl,rfl⟩) | (go_at_call 70;refine(ao _ _).mono ?_;rintro e w' ⟨rfl,rfl⟩) | (go_at_call 71;refine(aO _ _ _ _).mono ?_;rintro e w' ⟨rfl,rfl⟩))
     refine wp_loop_rounds 4 ?_
     iterate 2
      rw[rounds_succ]
      go_wp2_with (first | (go_at_call 69;refine(ax _ _).mono ?_;rintro e w' ⟨rfl,rfl⟩) | (go_at_call 70;refine(ao _ _).mono ?_;rintro e w' ⟨rfl,rfl⟩) | (go_at_call 71;refine(aO _ _ _ _).mono ?_;rintro e w' ⟨rfl,rfl⟩))
     go_ret2
     exact⟨rfl,eD.out⟩
    ·skip;cases t4:ey 0 999999999999 ((a*100+b)*10+c)
     ·skip;have b0:=ap.1 t0;have b1:=ap.1 t1;have b2:=ap.1 t2;have b3:=ap.1 t3
      have hr:mz a b c d=(0,false):=by unfold mz;rw[if_neg];have t:=jq.1 t4;simp only[Bool.and_eq_true,ap]at *;omega
      rw[hr];clear hr
      go_enter Tryz.func39,Tryz.ntmps39
      go_wp2_with (first | (go_at_call 69;refine(ax _ _).mono ?_;rintro e w' ⟨rfl,rfl⟩) | (go_at_call 70;refine(ao _ _).mono ?_;rintro e w' ⟨rfl,rfl⟩) | (go_at_call 71;refine(aO _ _ _ _).mono ?_;rintro e w' ⟨rfl,rfl⟩))
      refine(bY _ _).mono ?_;rintro e w1 ⟨u1,rfl,dT,ay⟩;obtain⟨g1,Lr,rfl,iH,yl,ym,eC⟩:=Own.lit (show Own w1 _ u1 (100::[10,2])from dT);have Pp:=eC 0 100 rfl;have VZ:=eC 1 10 rfl;have V0:=eC 2 2 rfl;clear eC;have Ls:=(ay.cell (p:=⟨B,off,none⟩) hB).trans c0;have I8:=(ay.cell (p:=⟨B,off+1,none⟩) hB).trans c1;have V3:=(ay.cell (p:=⟨B,off+2,none⟩) hB).trans c2;have V4:=(ay.cell (p:=⟨B,off+3,none⟩) hB).trans c3;have eD:=zh ay;clear dT ay
      go_wp2_with (first | (go_at_call 69;refine(ax _ _).mono ?_;rintro e w' ⟨rfl,rfl⟩) | (go_at_call 70;refine(ao _ _).mono ?_;rintro e w' ⟨rfl,rfl⟩) | (go_at_call 71;refine(aO _ _ _ _).mono ?_;rintro e w' ⟨rfl,rfl⟩))
      refine wp_loop_rounds 4 ?_
      iterate 2
       rw[rounds_succ]
       go_wp2_with (first | (go_at_call 69;refine(ax _ _).mono ?_;rintro e w' ⟨rfl,rfl⟩) | (go_at_call 70;refine(ao _ _).mono ?_;rintro e w' ⟨rfl,rfl⟩) | (go_at_call 71;refine(aO _ _ _ _).mono ?_;rintro e w' ⟨rfl,rfl⟩))
      go_ret2
      exact⟨rfl,eD.out⟩
     ·skip;cases t5:ey 0 1 d
      ·skip;have b0:=ap.1 t0;have b1:=ap.1 t1;have b2:=ap.1 t2;have b3:=ap.1 t3;have b4:=ap.1 t4
       have hr:mz a b c d=(0,false):=by unfold mz;rw[if_neg];have t:=jq.1 t5;simp only[Bool.and_eq_true,ap]at *;omega
       rw[hr];clear hr
       go_enter Tryz.func39,Tryz.ntmps39
       go_wp2_with (first | (go_at_call 69;refine(ax _ _).mono ?_;rintro e w' ⟨rfl,rfl⟩) | (go_at_call 70;refine(ao _ _).mono ?_;rintro e w' ⟨rfl,rfl⟩) | (go_at_call 71;refine(aO _ _ _ _).mono ?_;rintro e w' ⟨rfl,rfl⟩))
       refine(bY _ _).mono ?_;rintro e w1 ⟨u1,rfl,dT,ay⟩;obtain⟨g1,Lr,rfl,iH,yl,ym,eC⟩:=Own.lit (show Own w1 _ u1 (100::[10,2])from dT);have Pp:=eC 0 100 rfl;have VZ:=eC 1 10 rfl;have V0:=eC 2 2 rfl;clear eC;have Ls:=(ay.cell (p:=⟨B,off,none⟩) hB).trans c0;have I8:=(ay.cell (p:=⟨B,off+1,none⟩) hB).trans c1;have V3:=(ay.cell (p:=⟨B,off+2,none⟩) hB).trans c2;have V4:=(ay.cell (p:=⟨B,off+3,none⟩) hB).trans c3;have eD:=zh ay;clear dT ay
       go_wp2_with (first | (go_at_call 69;refine(ax _ _).mono ?_;rintro e w' ⟨rfl,rfl⟩) | (go_at_call 70;refine(ao _ _).mono ?_;rintro e w' ⟨rfl,rfl⟩) | (go_at_call 71;refine(aO _ _ _ _).mono ?_;rintro e w' ⟨rfl,rfl⟩))
       refine wp_loop_rounds 4 ?_
       iterate 3
        rw[rounds_succ]
        go_wp2_with (first | (go_at_call 69;refine(ax _ _).mono ?_;rintro e w' ⟨rfl,rfl⟩) | (go_at_call 70;refine(ao _ _).mono ?_;rintro e w' ⟨rfl,rfl⟩) | (go_at_call 71;refine(aO _ _ _ _).mono ?_;rintro e w' ⟨rfl,rfl⟩))
       go_ret2
       exact⟨rfl,eD.out⟩
      ·skip;cases t6:ey 0 999999999999 (((a*100+b)*10+c)*2+d)
       ·skip;have b0:=ap.1 t0;have b1:=ap.1 t1;have b2:=ap.1 t2;have b3:=ap.1 t3;have b4:=ap.1 t4;have b5:=ap.1 t5
        have hr:mz a b c d=(0,false):=by unfold mz;rw[if_neg];have t:=jq.1 t6;simp only[Bool.and_eq_true,ap]at *;omega
        rw[hr];clear hr
        go_enter Tryz.func39,Tryz.ntmps39
        go_wp2_with (first | (go_at_call 69;refine(ax _ _).mono ?_;rintro e w' ⟨rfl,rfl⟩) | (go_at_call 70;refine(ao _ _).mono ?_;rintro e w' ⟨rfl,rfl⟩) | (go_at_call 71;refine(aO _ _ _ _).mono ?_;rintro e w' ⟨rfl,rfl⟩))
        refine(bY _ _).mono ?_;rintro e w1 ⟨u1,rfl,dT,ay⟩;obtain⟨g1,Lr,rfl,iH,yl,ym,eC⟩:=Own.lit (show Own w1 _ u1 (100::[10,2])from dT);have Pp:=eC 0 100 rfl;have VZ:=eC 1 10 rfl;have V0:=eC 2 2 rfl;clear eC;have Ls:=(ay.cell (p:=⟨B,off,none⟩) hB).trans c0;have I8:=(ay.cell (p:=⟨B,off+1,none⟩) hB).trans c1;have V3:=(ay.cell (p:=⟨B,off+2,none⟩) hB).trans c2;have V4:=(ay.cell (p:=⟨B,off+3,none⟩) hB).trans c3;have eD:=zh ay;clear dT ay
        go_wp2_with (first | (go_at_call 69;refine(ax _ _).mono ?_;rintro e w' ⟨rfl,rfl⟩) | (go_at_call 70;refine(ao _ _).mono ?_;rintro e w' ⟨rfl,rfl⟩) | (go_at_call 71;refine(aO _ _ _ _).mono ?_;rintro e w' ⟨rfl,rfl⟩))
        refine wp_loop_rounds 4 ?_
        iterate 3
         rw[rounds_succ]
         go_wp2_with (first | (go_at_call 69;refine(ax _ _).mono ?_;rintro e w' ⟨rfl,rfl⟩) | (go_at_call 70;refine(ao _ _).mono ?_;rintro e w' ⟨rfl,rfl⟩) | (go_at_call 71;refine(aO _ _ _ _).mono ?_;rintro e w' ⟨rfl,rfl⟩))
        go_ret2
        exact⟨rfl,eD.out⟩
       ·skip;have b0:=ap.1 t0;have b1:=ap.1 t1;have b2:=ap.1 t2;have b3:=ap.1 t3;have b4:=ap.1 t4;have b5:=ap.1 t5;have b6:=ap.1 t6
        have hr:mz a b c d=(((a*100+b)*10+c)*2+d,true):=by unfold mz;rw[if_pos];simp only[Bool.and_eq_true,ap]at *;omega
        rw[hr];clear hr
        go_enter Tryz.func39,Tryz.ntmps39
        go_wp2_with (first | (go_at_call 69;refine(ax _ _).mono ?_;rintro e w' ⟨rfl,rfl⟩) | (go_at_call 70;refine(ao _ _).mono ?_;rintro e w' ⟨rfl,rfl⟩) | (go_at_call 71;refine(aO _ _ _ _).mono ?_;rintro e w' ⟨rfl,rfl⟩))
        refine(bY _ _).mono ?_;rintro e w1 ⟨u1,rfl,dT,ay⟩;obtain⟨g1,Lr,rfl,iH,yl,ym,eC⟩:=Own.lit (show Own w1 _ u1 (100::[10,2])from dT);have Pp:=eC 0 100 rfl;have VZ:=eC 1 10 rfl;have V0:=eC 2 2 rfl;clear eC;have Ls:=(ay.cell (p:=⟨B,off,none⟩) hB).trans c0;have I8:=(ay.cell (p:=⟨B,off+1,none⟩) hB).trans c1;have V3:=(ay.cell (p:=⟨B,off+2,none⟩) hB).trans c2;have V4:=(ay.cell (p:=⟨B,off+3,none⟩) hB).trans c3;have eD:=zh ay;clear dT ay
        go_wp2_with (first | (go_at_call 69;refine(ax _ _).mono ?_;rintro e w' ⟨rfl,rfl⟩) | (go_at_call 70;refine(ao _ _).mono ?_;rintro e w' ⟨rfl,rfl⟩) | (go_at_call 71;refine(aO _ _ _ _).mono ?_;rintro e w' ⟨rfl,rfl⟩))
        refine wp_loop_rounds 4 ?_
        iterate 4
         rw[rounds_succ]
         go_wp2_with (first | (go_at_call 69;refine(ax _ _).mono ?_;rintro e w' ⟨rfl,rfl⟩) | (go_at_call 70;refine(ao _ _).mono ?_;rintro e w' ⟨rfl,rfl⟩) | (go_at_call 71;refine(aO _ _ _ _).mono ?_;rintro e w' ⟨rfl,rfl⟩))
        go_ret2
        exact⟨rfl,eD.out⟩
theorem Ic (v:Value) (a b:Int) (w:World) (h:aY w v [a,b]):
  Calls Tryz.prog 39 #[.int .i64 4,v] w fun e w'=>e=.returned (.tuple #[.int .i64 (tT a b).1,.bool (tT a b).2])/\Below w.heap.size w w':=by
 have hV:=h;obtain⟨B,off,cp,rfl,hB,d9⟩:=h.lit;have c0:=d9 0 a rfl;have c1:=d9 1 b rfl;clear d9 h;simp only[Nat.add_zero]at c0;have HV:=zh hV;clear hV;have hZ:ey 1 5 4=true:=by decide
 cases t0:ey 0 999999999999 a
 ·skip
  have hr:tT a b=(0,false):=by unfold tT;rw[if_neg];have t:=jq.1 t0;simp only[Bool.and_eq_true,ap]at *;omega
  rw[hr];clear hr
  go_enter Tryz.func39,Tryz.ntmps39
  go_wp2_with (first | (go_at_call 69;refine(ax _ _).mono ?_;rintro e w' ⟨rfl,rfl⟩) | (go_at_call 70;refine(ao _ _).mono ?_;rintro e w' ⟨rfl,rfl⟩) | (go_at_call 71;refine(aO _ _ _ _).mono ?_;rintro e w' ⟨rfl,rfl⟩))
  refine(bY _ _).mono ?_;rintro e w1 ⟨u1,rfl,dT,ay⟩;obtain⟨g1,Lr,rfl,iH,yl,ym,eC⟩:=Own.lit (show Own w1 _ u1 (100::[])from dT);have Pp:=eC 0 100 rfl;clear eC;have Ls:=(ay.cell (p:=⟨B,off,none⟩) hB).trans c0;have I8:=(ay.cell (p:=⟨B,off+1,none⟩) hB).trans c1;have eD:=zh ay;clear dT ay
  go_wp2_with (first | (go_at_call 69;refine(ax _ _).mono ?_;rintro e w' ⟨rfl,rfl⟩) | (go_at_call 70;refine(ao _ _).mono ?_;rintro e w' ⟨rfl,rfl⟩) | (go_at_call 71;refine(aO _ _ _ _).mono ?_;rintro e w' ⟨rfl,rfl⟩))
  go_ret2
  exact⟨rfl,eD.out⟩
 ·skip;cases t1:ey 0 99 b
  ·skip;have b0:=ap.1 t0
   have hr:tT a b=(0,false):=by unfold tT;rw[if_neg];have t:=jq.1 t1;simp only[Bool.and_eq_true,ap]at *;omega
   rw[hr];clear hr
   go_enter Tryz.func39,Tryz.ntmps39
   go_wp2_with (first | (go_at_call 69;refine(ax _ _).mono ?_;rintro e w' ⟨rfl,rfl⟩) | (go_at_call 70;refine(ao _ _).mono ?_;rintro e w' ⟨rfl,rfl⟩) | (go_at_call 71;refine(aO _ _ _ _).mono ?_;rintro e w' ⟨rfl,rfl⟩))
   refine(bY _ _).mono ?_;rintro e w1 ⟨u1,rfl,dT,ay⟩;obtain⟨g1,Lr,rfl,iH,yl,ym,eC⟩:=Own.lit (show Own w1 _ u1 (100::[])from dT);have Pp:=eC 0 100 rfl;clear eC;have Ls:=(ay.cell (p:=⟨B,off,none⟩) hB).trans c0;have I8:=(ay.cell (p:=⟨B,off+1,none⟩) hB).trans c1;have eD:=zh ay;clear dT ay
   go_wp2_with (first | (go_at_call 69;refine(ax _ _).mono ?_;rintro e w' ⟨rfl,rfl⟩) | (go_at_call 70;refine(ao _ _).mono ?_;rintro e w' ⟨rfl,rfl⟩) | (go_at_call 71;refine(aO _ _ _ _).mono ?_;rintro e w' ⟨rfl,rfl⟩))
   refine wp_loop_rounds 2 ?_
   iterate 1
    rw[rounds_succ]
    go_wp2_with (first | (go_at_call 69;refine(ax _ _).mono ?_;rintro e w' ⟨rfl,rfl⟩) | (go_at_call 70;refine(ao _ _).mono ?_;rintro e w' ⟨rfl,rfl⟩) | (go_at_call 71;refine(aO _ _ _ _).mono ?_;rintro e w' ⟨rfl,rfl⟩))
   go_ret2
   exact⟨rfl,eD.out⟩
  ·skip;cases t2:ey 0 999999999999 (a*100+b)
   ·skip;have b0:=ap.1 t0;have b1:=ap.1 t1
    have hr:tT a b=(0,false):=by unfold tT;rw[if_neg];have t:=jq.1 t2;simp only[Bool.and_eq_true,ap]at *;omega
    rw[hr];clear hr
    go_enter Tryz.func39,Tryz.ntmps39
    go_wp2_with (first | (go_at_call 69;refine(ax _ _).mono ?_;rintro e w' ⟨rfl,rfl⟩) | (go_at_call 70;refine(ao _ _).mono ?_;rintro e w' ⟨rfl,rfl⟩) | (go_at_call 71;refine(aO _ _ _ _).mono ?_;rintro e w' ⟨rfl,rfl⟩))
    refine(bY _ _).mono ?_;rintro e w1 ⟨u1,rfl,dT,ay⟩;obtain⟨g1,Lr,rfl,iH,yl,ym,eC⟩:=Own.lit (show Own w1 _ u1 (100::[])from dT);have Pp:=eC 0 100 rfl;clear eC;have Ls:=(ay.cell (p:=⟨B,off,none⟩) hB).trans c0;have I8:=(ay.cell (p:=⟨B,off+1,none⟩) hB).trans c1;have eD:=zh ay;clear dT ay
    go_wp2_with (first | (go_at_call 69;refine(ax _ _).mono ?_;rintro e w' ⟨rfl,rfl⟩) | (go_at_call 70;refine(ao _ _).mono ?_;rintro e w' ⟨rfl,rfl⟩) | (go_at_call 71;refine(aO _ _ _ _).mono ?_;rintro e w' ⟨rfl,rfl⟩))
    refine wp_loop_rounds 2 ?_
    iterate 1
     rw[rounds_succ]
     go_wp2_with (first | (go_at_call 69;refine(ax _ _).mono ?_;rintro e w' ⟨rfl,rfl⟩) | (go_at_call 70;refine(ao _ _).mono ?_;rintro e w' ⟨rfl,rfl⟩) | (go_at_call 71;refine(aO _ _ _ _).mono ?_;rintro e w' ⟨rfl,rfl⟩))
    go_ret2
    exact⟨rfl,eD.out⟩
   ·skip;have b0:=ap.1 t0;have b1:=ap.1 t1;have b2:=ap.1 t2
    have hr:tT a b=(a*100+b,true):=by unfold tT;rw[if_pos];simp only[Bool.and_eq_true,ap]at *;omega
    rw[hr];clear hr
    go_enter Tryz.func39,Tryz.ntmps39
    go_wp2_with (first | (go_at_call 69;refine(ax _ _).mono ?_;rintro e w' ⟨rfl,rfl⟩) | (go_at_call 70;refine(ao _ _).mono ?_;rintro e w' ⟨rfl,rfl⟩) | (go_at_call 71;refine(aO _ _ _ _).mono ?_;rintro e w' ⟨rfl,rfl⟩))
    refine(bY _ _).mono ?_;rintro e w1 ⟨u1,rfl,dT,ay⟩;obtain⟨g1,Lr,rfl,iH,yl,ym,eC⟩:=Own.lit (show Own w1 _ u1 (100::[])from dT);have Pp:=eC 0 100 rfl;clear eC;have Ls:=(ay.cell (p:=⟨B,off,none⟩) hB).trans c0;have I8:=(ay.cell (p:=⟨B,off+1,none⟩) hB).trans c1;have eD:=zh ay;clear dT ay
    go_wp2_with (first | (go_at_call 69;refine(ax _ _).mono ?_;rintro e w' ⟨rfl,rfl⟩) | (go_at_call 70;refine(ao _ _).mono ?_;rintro e w' ⟨rfl,rfl⟩) | (go_at_call 71;refine(aO _ _ _ _).mono ?_;rintro e w' ⟨rfl,rfl⟩))
    refine wp_loop_rounds 2 ?_
    iterate 2
     rw[rounds_succ]
     go_wp2_with (first | (go_at_call 69;refine(ax _ _).mono ?_;rintro e w' ⟨rfl,rfl⟩) | (go_at_call 70;refine(ao _ _).mono ?_;rintro e w' ⟨rfl,rfl⟩) | (go_at_call 71;refine(aO _ _ _ _).mono ?_;rintro e w' ⟨rfl,rfl⟩))
    go_ret2
    exact⟨rfl,eD.out⟩
theorem Ie (v:Value) (a:Int) (s:Int) (hs:s≠4) (d_:s≠5) (hZ:ey 1 5 s=true) (w:World) (h:aY w v [a]):
  Calls Tryz.prog 39 #[.int .i64 s,v] w fun e w'=>e=.returned (.tuple #[.int .i64 (zw a).1,.bool (zw a).2])/\Below w.heap.size w w':=by
 have hV:=h;obtain⟨B,off,cp,rfl,hB,d9⟩:=h.lit;have c0:=d9 0 a rfl;clear d9 h;simp only[Nat.add_zero]at c0;have HV:=zh hV;clear hV;cases t0:ey 0 999999999999 a
 ·skip
  have hr:zw a=(0,false):=by unfold zw;rw[if_neg];have t:=jq.1 t0;simp only[Bool.and_eq_true,ap]at *;omega
  rw[hr];clear hr
  go_enter Tryz.func39,Tryz.ntmps39
  go_wp2_with (first | (go_at_call 69;refine(ax _ _).mono ?_;rintro e w' ⟨rfl,rfl⟩) | (go_at_call 70;refine(ao _ _).mono ?_;rintro e w' ⟨rfl,rfl⟩) | (go_at_call 71;refine(aO _ _ _ _).mono ?_;rintro e w' ⟨rfl,rfl⟩))
  refine(bY _ _).mono ?_;rintro e w1 ⟨u1,rfl,dT,ay⟩
  obtain⟨A1,Lr,rfl⟩:=Own.aeO (show Own w1 _ u1 []by have:=dT;rwa [show aH s=[]by simp[aH,hs,d_]]at this)
  have Ls:=(ay.cell (p:=⟨B,off,none⟩) hB).trans c0;have eD:=zh ay;clear dT ay
  go_wp2_with (first | (go_at_call 69;refine(ax _ _).mono ?_;rintro e w' ⟨rfl,rfl⟩) | (go_at_call 70;refine(ao _ _).mono ?_;rintro e w' ⟨rfl,rfl⟩) | (go_at_call 71;refine(aO _ _ _ _).mono ?_;rintro e w' ⟨rfl,rfl⟩))
  go_ret2
  exact⟨rfl,eD.out⟩
 ·skip;have b0:=ap.1 t0
  have hr:zw a=(a,true):=by unfold zw;rw[if_pos];simp only[Bool.and_eq_true,ap]at *;omega
  rw[hr];clear hr
  go_enter Tryz.func39,Tryz.ntmps39
  go_wp2_with (first | (go_at_call 69;refine(ax _ _).mono ?_;rintro e w' ⟨rfl,rfl⟩) | (go_at_call 70;refine(ao _ _).mono ?_;rintro e w' ⟨rfl,rfl⟩) | (go_at_call 71;refine(aO _ _ _ _).mono ?_;rintro e w' ⟨rfl,rfl⟩))
  refine(bY _ _).mono ?_;rintro e w1 ⟨u1,rfl,dT,ay⟩
  obtain⟨A1,Lr,rfl⟩:=Own.aeO (show Own w1 _ u1 []by have:=dT;rwa [show aH s=[]by simp[aH,hs,d_]]at this)
  have Ls:=(ay.cell (p:=⟨B,off,none⟩) hB).trans c0;have eD:=zh ay;clear dT ay
  go_wp2_with (first | (go_at_call 69;refine(ax _ _).mono ?_;rintro e w' ⟨rfl,rfl⟩) | (go_at_call 70;refine(ao _ _).mono ?_;rintro e w' ⟨rfl,rfl⟩) | (go_at_call 71;refine(aO _ _ _ _).mono ?_;rintro e w' ⟨rfl,rfl⟩))
  refine wp_loop_rounds 1 ?_
  iterate 1
   rw[rounds_succ]
   go_wp2_with (first | (go_at_call 69;refine(ax _ _).mono ?_;rintro e w' ⟨rfl,rfl⟩) | (go_at_call 70;refine(ao _ _).mono ?_;rintro e w' ⟨rfl,rfl⟩) | (go_at_call 71;refine(aO _ _ _ _).mono ?_;rintro e w' ⟨rfl,rfl⟩))
  go_ret2
  exact⟨rfl,eD.out⟩
def Pq (s:Int) (ps:List Int):Int×Bool:=
 if ey 1 5 s=false then (0,false) else
 if s=5 then (match ps with | [a,b,c,d]=>mz a b c d | _=>(0,false)) else
 if s=4 then (match ps with | [a,b]=>tT a b | _=>(0,false)) else
 (match ps with | [a]=>zw a | _=>(0,false))
theorem R8 (s:Int) (ps:List Int) (h:ps.length≠(aH s).length+1):Pq s ps=(0,false):=by
 unfold Pq aH at *
 split
 ·rfl
 ·split
  ·rename_i h5
   subst h5;simp at h
   split
   ·simp at h
   ·rfl
  ·split
   ·rename_i h4
    subst h4;simp at h
    split
    ·simp at h
    ·rfl
   ·rename_i h5 h4
    simp[h4,h5]at h
    split
    ·simp at h
    ·rfl
theorem aaN {ps:List Int} (h:ps.length=4):∃a b c d,ps=[a,b,c,d]:=by
 match ps,h with
 | [a,b,c,d],_=>exact⟨a,b,c,d,rfl⟩
theorem TU {ps:List Int} (h:ps.length=2):∃a b,ps=[a,b]:=by
 match ps,h with
 | [a,b],_=>exact⟨a,b,rfl⟩
theorem aaO {ps:List Int} (h:ps.length=1):∃a,ps=[a]:=by
 match ps,h with
 | [a],_=>exact⟨a,rfl⟩
theorem Lu (v:Value) (s:Int) (ps:List Int) (w:World) (h:aY w v ps):
  Calls Tryz.prog 39 #[.int .i64 s,v] w fun e w'=>e=.returned (.tuple #[.int .i64 (Pq s ps).1,.bool (Pq s ps).2])/\Below w.heap.size w w':=by
 cases hs:ey 1 5 s
 ·have hr:Pq s ps=(0,false):=by simp[Pq,hs]
  rw[hr];clear hr
  go_enter Tryz.func39,Tryz.ntmps39
  go_wp2_with (go_at_call 69;refine(ax _ _).mono ?_;rintro e w' ⟨rfl,rfl⟩)
  go_ret2
  exact⟨rfl,Below.refl _ _⟩
 ·by_cases hl:ps.length=(aH s).length+1
  ·by_cases h5:s=5
   ·subst h5;obtain⟨a,b,c,d,rfl⟩:=aaN hl;exact Ib v a b c d w h
   ·by_cases h4:s=4
    ·subst h4;obtain⟨a,b,rfl⟩:=TU hl;exact Ic v a b w h
    ·obtain⟨a,rfl⟩:=aaO (ps:=ps) (by simpa[aH,h4,h5]using hl);have hr:Pq s [a]=zw a:=by simp[Pq,hs,h4,h5]
     rw[hr];exact Ie v a s h4 h5 hs w h
  ·rw[R8 s ps hl];obtain⟨A,c,rfl,eV,hm,hA⟩:=h
   have gM:((ps.length:Int) != (((aH s).length+1:Nat):Int))=true:=by rw[bne_iff_ne];omega
   have Fb:(aH s).length<=3:=by unfold aH;(split;· decide);split <;> decide
   clear hl hA;rw[Int.natCast_add,Int.natCast_one]at gM;unfold maxLen at hm
   go_enter Tryz.func39,Tryz.ntmps39
   go_wp2_with (go_at_call 69;refine(ax _ _).mono ?_;rintro e w' ⟨rfl,rfl⟩)
   refine(bY _ _).mono ?_;rintro e w1 ⟨u,rfl,ho,ay⟩;obtain⟨A',c',rfl,_,_⟩:=ho.ints;have Hb:=zh ay;clear ho ay;go_wp2
   go_ret2
   exact⟨rfl,Hb.out⟩
def Lv (s l:Int):List Int×Bool:=if (ey 1 5 s&&ey 0 999999999999 l)=true then (eu s l,true) else ([],false)
theorem R9 (s l:Int) (w:World):
  Calls Tryz.prog 38 #[.int .i64 s,.int .i64 l] w fun e w'=>∃u,e=.returned (.tuple #[u,.bool (Lv s l).2])/\Own w' w.heap.size u (Lv s l).1/\Below w.heap.size w w':=by
 cases hs:ey 1 5 s
 ·rw[show Lv s l=([],false)by simp[Lv,hs]]
  go_enter Tryz.func38,Tryz.ntmps38
  go_wp2_with (go_at_call 69;refine(ax _ _).mono ?_;rintro e w' ⟨rfl,rfl⟩)
  go_ret2
  exact⟨_,rfl,bH _ _,Below.refl _ _⟩
 ·cases hl:ey 0 999999999999 l
  ·rw[show Lv s l=([],false)by simp[Lv,hl]]
   go_enter Tryz.func38,Tryz.ntmps38
   go_wp2_with (first | (go_at_call 69;refine(ax _ _).mono ?_;rintro e w' ⟨rfl,rfl⟩) | (go_at_call 70;refine(ao _ _).mono ?_;rintro e w' ⟨rfl,rfl⟩))
   go_ret2
   exact⟨_,rfl,bH _ _,Below.refl _ _⟩
  ·rw[show Lv s l=(eu s l,true)by simp[Lv,hl,hs]]
   obtain⟨h0,h1⟩:=ap.1 hl
   go_enter Tryz.func38,Tryz.ntmps38
   go_wp2_with (first | (go_at_call 69;refine(ax _ _).mono ?_;rintro e w' ⟨rfl,rfl⟩) | (go_at_call 70;refine(ao _ _).mono ?_;rintro e w' ⟨rfl,rfl⟩))
   refine(j_ s l h0 h1 _).mono ?_;rintro e w1 ⟨u,rfl,ho,hb⟩;have Ho:=zh ho;have Hb:=zh hb;clear ho hb;go_wp2
   go_ret2
   exact⟨_,rfl,Ho.out,Hb.out⟩
theorem Ck:∀(k n:Nat),n<2^k->bl n<=k
 | 0,n,h=>by
  have:n=0:=by simpa using h
  subst this;rw[s8];omega
 | k+1,n,h=>by
  by_cases h0:n=0
  ·subst h0;rw[s8];omega
  ·rw[Ci (by omega)]
   have:=Ck k (n/2) (by rw[Nat.pow_succ]at h;omega)
   omega
theorem R_ {s l:Int} (hs:1<=s/\s<=5) (h0:0<=l) (h1:l<=999999999999):Pq s (eu s l)=(l,true):=by
 have Gh:ey 1 5 s=true:=ap.2 hs;unfold Pq
 rw[if_neg (by rw[Gh];simp)]
 by_cases e5:s=5
 ·subst e5;rw[if_pos rfl];have e:eu 5 l=[l/2/10/100,(l/2/10)%100,(l/2)%10,l%2]:=by simp[eu,aH,kR,eK]
  rw[e];show mz _ _ _ _=_
  have e2:((l/2/10/100*100+(l/2/10)%100)*10+(l/2)%10)*2+l%2=l:=by omega
  unfold mz;rw[e2,if_pos];simp only[Bool.and_eq_true,ap];omega
 ·rw[if_neg e5]
  by_cases e4:s=4
  ·subst e4;rw[if_pos rfl];have e:eu 4 l=[l/100,l%100]:=by simp[eu,aH,kR,eK]
   rw[e];show tT _ _=_
   have e2:l/100*100+l%100=l:=by omega
   unfold tT;rw[e2,if_pos];simp only[Bool.and_eq_true,ap];omega
  ·rw[if_neg e4];have e:eu s l=[l]:=by simp[eu,aH,kR,eK,e4,e5]
   rw[e];show zw _=_
   unfold zw;rw[if_pos (ap.2 ⟨h0,h1⟩)]
theorem tU {xs:List Int} {b:Int} (hb:0<=b) (h:∀x∈xs,x<=b):mf xs<=b:=by
 suffices hs:∀(xs:List Int) (a:Int),a<=b->(∀x∈xs,x<=b)->xs.foldl max a<=b from hs xs 0 hb h
 intro xs
 induction xs with
 | nil=>intro a ha _;exact ha
 | cons x xs ih=>
  intro a ha hx;refine ih _ ?_ fun y hy=>hx y (List.mem_cons_of_mem _ hy)
  have:=hx x List.mem_cons_self
  exact Int.max_le.2 ⟨ha,this⟩
structure aaP (n:ak) (s:Int) (l:List Int):Prop where
 pos:0<l.length
 len:l.length<=40
 acc:cD n s l=true/\aG n s l=true
 bits:∃k:Nat,qU l=((k:Int),true)/\k<=32/\(s=1->k<=1)/\(s=2->k<=2)
 own:∀(v:Nat) (x:Int),l[v]?=some x->bm n s l (v:Int) 1000=true/\(x<=1000->x∈bJ n s l (v:Int) 1000)
 parts:∀(v:Nat) (x:Int),l[v]?=some x->(Lv s x).2=true/\Pq s (Lv s x).1=(x,true)
theorem aaQ {n:ak} {s:Int} (h:aJ n s=true):aaP n s (aD n s):=by
 have h':=h
 unfold aJ qm at h'
 rw[Bool.and_eq_true,Bool.and_eq_true,ap]at h';obtain⟨⟨hn,hs⟩,hb⟩:=h';have hk:=TR hn hs hb;have hN:=aE hn
 have e:aD n s=oh n s:=by
  unfold aD;rw[if_pos h]
 rw[e]
 have yg:dY n s (oh n s)=true:=iv.2 ⟨hn,hs,hk.len,fun x hx=>by have:=hk.rng x hx;omega⟩
 refine⟨by rw[hk.len];exact hN.1,by rw[hk.len];exact hN.2,⟨yg,?_⟩,?_,?_,?_⟩
 ·unfold aG;rw[yg,(JE hk.len).2 hk.acc];rfl
 ·refine⟨bl (mf (oh n s)).toNat,?_,?_,?_,?_⟩
  ·unfold qU
   rw[if_pos ⟨by rw[hk.len];exact hN.2,by rw[List.all_eq_true];exact fun x hx=>ap.2 (by have:=hk.rng x hx;omega)⟩]
  ·refine Ck 32 _ ?_
   have:=tU (xs:=oh n s) (b:=2000000000) (by omega) fun x hx=>(hk.rng x hx).2.1
   omega
  ·intro e1;refine Ck 1 _ ?_
   have:=tU (xs:=oh n s) (b:=1) (by omega) fun x hx=>(hk.rng x hx).2.2.1 e1
   omega
  ·intro e2;refine Ck 2 _ ?_
   have:=tU (xs:=oh n s) (b:=2) (by omega) fun x hx=>(hk.rng x hx).2.2.2 e2
   omega
 ·intro v x hx;have hv:v<(oh n s).length:=an hx
  have hr:bm n s (oh n s) (v:Int) 1000=true:=by
   unfold bm
   rw[yg,ap.2 ⟨show(0:Int)<=(v:Int)by omega,show(v:Int)<=(n.ends.length:Int)-1 by rw[hk.len]at hv;omega⟩]
   rfl
  refine⟨hr,fun rK=>?_⟩
  unfold bJ;rw[if_pos hr];unfold fc;rw[List.mem_filter];have tr:=(hk.rng x (List.mem_of_getElem? hx)).1;refine⟨?_,?_⟩
  ·unfold gK;refine List.mem_map.2 ⟨x.toNat,List.mem_range.2 (by omega),?_⟩;show((x.toNat:Nat):Int)=x
   omega
  ·have iJ:(oh n s).set v x=oh n s:=by
    apply List.ext_getElem?
    intro j
    by_cases ej:v=j
    ·subst ej;rw[List.getElem?_set_self hv,hx]
    ·rw[List.getElem?_set_ne ej]
   unfold zu
   rw[Int.toNat_natCast,iJ,hk.acc v (by rw[hk.len]at hv;exact hv)]
   rfl
 ·intro v x hx;have hr:=hk.rng x (List.mem_of_getElem? hx)
  have e3:Lv s x=(eu s x,true):=by
   unfold Lv
   rw[if_pos (by rw[Bool.and_eq_true,ap,ap];exact⟨hs,by omega⟩)]
  rw[e3];exact⟨rfl,R_ hs hr.1 (by omega)⟩
theorem V6 (n:ak) (s:Int):aJ n s=(aC n s&&aB n s):=by
 have:=Ch n s
 rw[<- Bool.not_inj_iff,<- this]
 cases aC n s <;> cases aB n s <;> rfl
theorem V7 (n:ak) (s:Int) (ls:List Int) (h:aX n s ls=true):aG n s ls=decide ((aI n s ls).length=0):=by
 have h1:dY n s ls=true:=h
 unfold aG aI
 rw[h1,if_pos rfl,Bool.true_and]
 cases (sB n s ls).length <;> rfl
theorem Pr {n:ak} {s:Int} {ls:List Int} (h:aG n s ls=true) (hk:aC n s=true):aB n s=true:=by
 unfold aG at h;rw[Bool.and_eq_true,beq_iff_eq]at h;obtain⟨h1,h2⟩:=h;obtain⟨hn,hs,hl,hr⟩:=iv.1 h1;unfold aC at hk;unfold aB;rw[Bool.and_eq_true]at hk ⊢;exact⟨hk.1,RX h1 ((JE hl).1 h2) hk.2⟩
end Go.Proofs.YtgmdpppljkmabaaGreat
