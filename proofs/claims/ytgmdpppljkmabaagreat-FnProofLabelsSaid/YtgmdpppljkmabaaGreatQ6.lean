/- Parts of the proof: walks of functions and plain laws. -/
import Derived.Test.YtgmdpppljkmabaaGreatQ0
import Derived.Test.YtgmdpppljkmabaaGreatQ1
import Derived.Test.YtgmdpppljkmabaaGreatQ5
import Derived.Test.YtgmdpppljkmabaaGreatQ4
import Derived.LoopN
set_option maxRecDepth 100000
set_option maxHeartbeats 16000000
namespace Go.Proofs.YtgmdpppljkmabaaGreat
open Go Go.RowKit
abbrev Ed:=Int×Int×Int×Int
def oz (e:Ed):List Value:=[.int .i64 e.1,.int .i64 e.2.1,.int .i64 e.2.2.1,.int .i64 e.2.2.2]
theorem J9:(Tryz.prog.info? 136).map (fun i=>(i.zero,i.size,i.bytes))=some (some (.agg #[.int .i64 0,.int .i64 0,.int .i64 0,.int .i64 0]),4,32):=by kernel_rfl
def qk (w:World) (base:Nat) (v:Value) (xs:List Ed):Prop:=w.ownsRow base 136 4 v xs.length (xs.flatMap oz)
theorem Dt:∀ {xs:List Ed} {k:Nat} {x:Ed},xs[k]?=some x->(xs.flatMap oz)[k*4]?=some (.int .i64 x.1)/\(xs.flatMap oz)[k*4+1]?=some (.int .i64 x.2.1)/\(xs.flatMap oz)[k*4+2]?=some (.int .i64 x.2.2.1)/\(xs.flatMap oz)[k*4+3]?=some (.int .i64 x.2.2.2)
 | [],_,_,h=>by simp at h
 | y::xs,0,x,h=>by simp at h;subst h;simp[oz]
 | y::xs,k+1,x,h=>by
  obtain⟨h1,h2,h3,h4⟩:=Dt (xs:=xs) (k:=k) (x:=x) (by simpa using h)
  have e:∀j,((y::xs).flatMap oz)[(k+1)*4+j]?=(xs.flatMap oz)[k*4+j]?:=fun j=>by
   rw[List.flatMap_cons,List.getElem?_append_right (by simp[oz];omega)]
   congr 1
   simp[oz];omega
  exact⟨(e 0).trans h1,(e 1).trans h2,(e 2).trans h3,(e 3).trans h4⟩
theorem qk.keep {w w':World} {base:Nat} {v:Value} {xs:List Ed} (h:qk w base v xs) (hb:aa w w'):qk w' base v xs:=aK h fun k hk=>hb.below.block k (World.ownsRow.lt h k (by simpa using hk)).2
theorem qk.mono {w:World} {base k6:Nat} {v:Value} {xs:List Ed} (h:qk w base v xs) (hb:k6<=base):qk w k6 v xs:=kN h hb
theorem M3 (w:World) (base:Nat):qk w base (.slice none 0 0) []:=World.ownsRow_nil w base _ _
def M4 (W:World) (v:Value) (xs:List Ed):Prop:=∃A c,v=.slice A xs.length c/\c<=maxLen/\xs.length<=c/\∀k x,xs[k]?=some x->∃b,A=some ⟨b,0,none⟩/\W.cell? ⟨b,k*4,none⟩=some (.int .i64 x.1)/\W.cell? ⟨b,k*4+1,none⟩=some (.int .i64 x.2.1)/\W.cell? ⟨b,k*4+2,none⟩=some (.int .i64 x.2.2.1)/\W.cell? ⟨b,k*4+3,none⟩=some (.int .i64 x.2.2.2)
theorem qk.read {w:World} {base:Nat} {v:Value} {xs:List Ed} (h:qk w base v xs):M4 w v xs:=by
 have h':=h;rcases h.2 with⟨rfl,hn⟩ | ⟨g,cap,cur,rfl,hb,hg,vG,LM,eP,LW⟩
 ·have:xs=[]:=List.eq_nil_of_length_eq_zero hn
  subst this;exact⟨none,0,rfl,Nat.zero_le _,Nat.le_refl _,fun k x hk=>by simp at hk⟩
 ·refine⟨_,cap,rfl,LM,vG,fun k x hk=>⟨g,rfl,?_⟩⟩
  obtain⟨h1,h2,h3,h4⟩:=Dt hk;have mh:=an hk
  exact⟨by rw[World.ownsRow.cellAt (cap:=cap) h' _ (by omega)];exact h1,by rw[World.ownsRow.cellAt (cap:=cap) h' _ (by omega)];exact h2,by rw[World.ownsRow.cellAt (cap:=cap) h' _ (by omega)];exact h3,by rw[World.ownsRow.cellAt (cap:=cap) h' _ (by omega)];exact h4⟩
theorem M5 {w w0:World} {ops:Array Oper} {rest:List Oper} {o:Oper} {a:Act} {Q:Exit->Act->World->Prop} (iY:o.guard=none) (s x:Operand)
  (ho:o.op=.call { callee:=.builtin .append,args:=#[s,x],argTypes:=#[133,133] }) {v:Value} {xs:List Ed} (hs:a.eval s=v) (h:qk w w0.heap.size v xs) (b:Nat) (y:Ed)
  (hx:a.eval x=.slice (some ⟨b,0,none⟩) 1 1) (FU:w.cell? ⟨b,0,none⟩=some (.int .i64 y.1)) (dS:w.cell? ⟨b,1,none⟩=some (.int .i64 y.2.1)) (ks:w.cell? ⟨b,2,none⟩=some (.int .i64 y.2.2.1)) (qf:w.cell? ⟨b,3,none⟩=some (.int .i64 y.2.2.2)) (hl:xs.length+1<=1000000) (yD:aa w0 w)
  (k:∀g cap w',qk w' w0.heap.size (.slice (some ⟨g,0,none⟩) (xs.length+1) cap) (xs++[y])->aa w0 w'->wpList Tryz.prog ops Q rest (a.put o.dst (.slice (some ⟨g,0,none⟩) (xs.length+1) cap)) w'):wpList Tryz.prog ops Q (o::rest) a w:=by
 obtain⟨i0,hi,il,dV,d8⟩:=info_parts J9
 refine wpList_append_lies w iY s x 133 ho w0.heap.size 136 i0 _ 4 32 Tryz.underlying133 hi il dV d8 rfl (by decide) v xs.length (xs.flatMap oz) hs h ⟨b,0,none⟩ 1 1 (oz y) hx rfl
  (by
   intro j u hj;rw[Go.Addr.add_lit,Nat.zero_add]
   match j,hj with
   | 0,hj=>simp[oz]at hj;subst hj;exact FU
   | 1,hj=>simp[oz]at hj;subst hj;exact dS
   | 2,hj=>simp[oz]at hj;subst hj;exact ks
   | 3,hj=>simp[oz]at hj;subst hj;exact qf
   | j+4,hj=>simp[oz]at hj) (by simp[oz,Value.oneCell']) (by omega) (by unfold maxLen;omega) (by omega) yD.below.size w.heap.size rfl ?_
 intro g cap w' h1 h2 h3 h4;refine k g cap w' ?_ (Below.grown yD h2 yD.below.size (fun q hq=>(World.ownsRow.lt h q hq).1))
 unfold qk;simpa using h1
def SR (w0:World) (gH:FuncId) (dF:Array Value) (p:Ed->Bool) (xs:List Ed):Prop:=
 ∀x∈xs,∀w,aa w0 w->Calls Tryz.prog gH (#[.agg #[.int .i64 x.1,.int .i64 x.2.1,.int .i64 x.2.2.1,.int .i64 x.2.2.2]]++dF) w fun e w'=>e=.returned (.bool (p x))/\Below w.heap.size w w'
def By (p:Ed->Bool) (xs:List Ed):Int:=match xs.findIdx? p with | some i=>(i:Int) | none => -1
theorem J_ {p:Ed->Bool} {xs:List Ed} (h:xs.any p=false):By p xs = -1:=by
 have:xs.findIdx? p=none:=by
  rw[List.findIdx?_eq_none_iff];intro x hx;rw[List.any_eq_false]at h;simpa using h x hx
 simp[By,this]
theorem FV {p:Ed->Bool} {xs:List Ed} {k:Nat} {x:Ed} (hx:xs[k]?=some x) (hp:p x=true) (h:(xs.take k).any p=false):By p xs=k:=by
 have:xs.findIdx? p=some k:=by
  obtain⟨hk,rfl⟩:=List.getElem?_eq_some_iff.1 hx;rw[List.findIdx?_eq_some_iff_getElem];refine⟨hk,hp,fun j hj=>?_⟩
  rw[List.any_eq_false]at h
  have:=h xs[j] (List.mem_take_iff_getElem.2 ⟨j,by omega,rfl⟩)
  simpa using this
 simp[By,this]
theorem M6 (p:Ed->Bool) (xs:List Ed):decide (0<=By p xs)=xs.any p:=by
 unfold By
 cases h:xs.findIdx? p with
 | none=>
  rw[List.findIdx?_eq_none_iff]at h
  have:xs.any p=false:=by rw[List.any_eq_false];intro x hx;simp[h x hx]
  rw[this];rfl
 | some i=>
  rw[List.findIdx?_eq_some_iff_getElem]at h;obtain⟨hi,hp,-⟩:=h
  have:xs.any p=true:=List.any_eq_true.2 ⟨_,List.getElem_mem hi,hp⟩
  rw[this];simp
theorem Ka {p:Ed->Bool} {xs:List Ed} {k:Nat} {x:Ed} (hx:xs[k]?=some x) (h:(xs.take k).any p=false) (hp:p x=false):(xs.take (k+1)).any p=false:=by
 rw[bh hx,List.any_append,h];simp[hp]
theorem xh (v:Value) (xs:List Ed) (gH:FuncId) (dF:Array Value) (p:Ed->Bool) (w:World) (h:M4 w v xs) (iW:∀args w,(callFunc gH args).run Tryz.prog w=.ok (.enter gH args) w) (hp:SR w gH dF p xs):
  Calls Tryz.prog 202 #[v,.func (.func gH) #[] dF] w fun e w'=>e=.returned (.int .i64 (By p xs))/\Below w.heap.size w w':=by
 have H:=zh h;obtain⟨A,c,rfl,hm,eV,hA⟩:=h;unfold maxLen at hm;have HA:=zh hA;clear hA;have Hp:=zh hp;have eg:=iW;clear hp
 go_enter Tryz.func202,Tryz.ntmps202
 go_wp2
 go_loopw [8] (fun i wr=>∃k:Nat,k<=xs.length/\i=.int .i64 k/\(xs.take k).any p=false/\aa w wr) (fun i _=>xs.length-(intOf i).toNat)
 case atStart=>exact⟨0,Nat.zero_le _,rfl,rfl,ad _⟩
 case round=>
  obtain⟨k,hk,rfl,oU,hb⟩:=hrel;have ww:=zh oU;have Hb:=zh hb;clear oU hb
  by_cases hlt:k<xs.length
  ·obtain⟨x,hx⟩:=aM xs k hlt;obtain⟨b,rfl,FU,dS,ks,qf⟩:=HA.out k x hx;have d0:=Hb.out.cell FU;have d1:=Hb.out.cell dS;have d2:=Hb.out.cell ks;have d3:=Hb.out.cell qf;have Hx:=zh hx;clear hx FU dS ks qf;obtain⟨y,hy⟩:∃y,y=p x:=⟨_,rfl⟩
   have Hy:=zh hy;have jf:=Hp.out x (List.mem_of_getElem? Hx.out) _ Hb.out;rw[<- hy]at jf;have kG:=zh jf;clear hy jf;go_wp2_with fail;refine kG.out.mono ?_;rintro e w1 ⟨rfl,ay⟩;have eD:=zh (Hb.out.trans ay);clear ay;cases y
   ·go_wp2;go_roundw
    case rel=>exact⟨k+1,by omega,by go_num,Ka Hx.out ww.out Hy.out.symm,eD.out⟩
    case measure=>simp[intOf];omega
   ·have Hr:Hid (By p xs=k):=FV Hx.out Hy.out.symm ww.out;go_wp2;go_ret;exact⟨congrArg (fun i=>Ending.returned (.int .i64 i)) Hr.out.symm,eD.out⟩
  ·obtain rfl:k=xs.length:=by omega
   have Hr:Hid (By p xs = -1):=J_ (by have:=ww.out;rwa [List.take_length]at this)
   go_wp2;go_ret;exact⟨congrArg (fun i=>Ending.returned (.int .i64 i)) Hr.out.symm,Hb.out⟩
theorem sl (v:Value) (xs:List Ed) (gH:FuncId) (dF:Array Value) (p:Ed->Bool) (w:World) (h:M4 w v xs) (iW:∀args w,(callFunc gH args).run Tryz.prog w=.ok (.enter gH args) w) (hp:SR w gH dF p xs):
  Calls Tryz.prog 147 #[v,.func (.func gH) #[] dF] w fun e w'=>e=.returned (.bool (xs.any p))/\Below w.heap.size w w':=by
 have hi:=zh (xh v xs gH dF p w h iW hp);have He:=zh (M6 p xs);obtain⟨A,c,rfl,hm,eV,hA⟩:=h
 go_enter Tryz.func147,Tryz.ntmps147
 go_wp2_with fail;refine hi.out.mono ?_;rintro e w1 ⟨rfl,hb⟩;have Hb:=zh hb;clear hb;go_wp2;go_ret;exact⟨congrArg (fun b=>Ending.returned (.bool b)) He.out,Hb.out⟩
def jL (v i:Nat) (e:Int×Int):Bool:=decide ((v:Int)<e.1)||(((v:Int)==e.1)&&decide ((i:Int)<=e.2))
def sn (v i:Nat) (e:Int×Int):List Ed:=if jL v i e then [((v:Int),(i:Int),e.1,e.2)] else []
def oA (v:Nat) (es:List (Int×Int)) (i:Nat):List Ed:=(List.range i).flatMap fun j=>sn v j (es.getD j (0,0))
def dX (n:ak) (u:Nat):List (Int×Int):=n.ends.getD u []
def eJ (n:ak) (v:Nat):List Ed:=(List.range v).flatMap fun u=>oA u (dX n u) (dX n u).length
def ch (n:ak):List Ed:=eJ n n.ends.length
theorem zY (v:Nat) (es:List (Int×Int)) (i:Nat):oA v es (i+1)=oA v es i++sn v i (es.getD i (0,0)):=by
 unfold oA;rw[List.range_succ,List.flatMap_append];simp
theorem sp (n:ak) (v:Nat):eJ n (v+1)=eJ n v++oA v (dX n v) (dX n v).length:=by
 unfold eJ;rw[List.range_succ,List.flatMap_append];simp
theorem Du (v:Nat) (es:List (Int×Int)) (i:Nat):(oA v es i).length<=i:=by
 induction i with
 | zero=>simp[oA]
 | succ i ih=>
  rw[zY,List.length_append]
  have:(sn v i (es.getD i (0,0))).length<=1:=by unfold sn;split <;> simp
  omega
theorem ph {n:ak} (hn:al n=true) (v:Nat):(eJ n v).length<=6*v:=by
 induction v with
 | zero=>simp[eJ]
 | succ v ih=>
  rw[sp,List.length_append];have h1:=Du v (dX n v) (dX n v).length
  have h2:(dX n v).length<=6:=by
   unfold dX;rw[zDd]
   cases h:n.ends[v]? with
   | none=>simp
   | some es=>exact(bX hn h).1
  omega
theorem Kb {n:ak} {e:Ed}:e∈ch n↔∃v i,v<n.ends.length/\i<(dX n v).length/\jL v i ((dX n v).getD i (0,0))=true/\e=((v:Int),(i:Int),((dX n v).getD i (0,0)).1,((dX n v).getD i (0,0)).2):=by
 unfold ch eJ oA
 simp only[List.mem_flatMap,List.mem_range];constructor
 ·rintro⟨v,hv,i,hi,he⟩;unfold sn at he
  split at he
  ·rename_i hk
   exact⟨v,i,hv,hi,hk,by simpa using he⟩
  ·simp at he
 ·rintro⟨v,i,hv,hi,hk,rfl⟩
  exact⟨v,hv,i,hi,by unfold sn;rw[if_pos hk];simp⟩
theorem zZ (ve vi vn:Value) (n:ak) (w:World) (h:aQ w ve vi vn n) (hn:al n=true):
  Calls Tryz.prog 124 #[.agg #[ve,vi,vn]] w fun e w'=>∃u,e=.returned u/\qk w' w.heap.size u (ch n)/\Below w.heap.size w w':=by
 have lN:=(aE hn).2
 obtain⟨w0,A,c,A2,c2,A3,c3,rfl,rfl,rfl,eV,hm,fJ,fB,HA,bK,aT,H,dL,dR,dU⟩:=zB h;clear h
 have Hn:=zh hn;have bB:aa w0 w0:=ad _;clear hn
 go_enter Tryz.func124,Tryz.ntmps124
 go_upto_region 1 with(fail);rw[<- bK.out];go_wp2
 go_loopw [3,11] (fun u i wr=>∃k:Nat,k<=n.ends.length/\i=.int .i64 k/\qk wr w0.heap.size u (eJ n k)/\aa w0 wr) (fun _ i _=>n.ends.length-(intOf i).toNat)
 case atStart=>exact⟨0,Nat.zero_le _,rfl,by simpa[eJ]using M3 _ w0.heap.size,bB⟩
 case round=>
  obtain⟨k,hk,rfl,ho,hs⟩:=hrel;have Ho:=zh ho;have Hs:=zh hs;clear bB ho hs
  by_cases hlt:k<n.ends.length
  ·obtain⟨es,bW⟩:=aM n.ends k hlt;obtain⟨vj,-⟩:=bX Hn.out bW
   have Mw:Hid (dX n k=es):=by show _=_;rw[dX,zDd,bW];rfl
   obtain⟨b,y4,cr,ur,g_,Bk,dS,dB⟩:=gy H.out.es bW;cases g_;obtain⟨A1,z1,rfl,dV,d8,g_⟩:=dB;unfold maxLen at d8;have r9:=zh g_;have r1:=ah (ae dS) Hs.out;have q5:=r1 wr (ad _);have q0:=dL wr Hs.out;have LX:=ph Hn.out k;have WJ:=zh LX;clear bW dS g_ LX;go_wp2
   go_loopw [3,18] (fun u i wr=>∃j:Nat,j<=es.length/\i=.int .i64 j/\qk wr w0.heap.size u (eJ n k++oA k es j)/\aa w0 wr) (fun _ i _=>es.length-(intOf i).toNat)
   case atStart=>exact⟨0,Nat.zero_le _,rfl,by simpa[oA]using Ho.out,Hs.out⟩
   case round=>
    obtain⟨j,hj,rfl,ho,hs⟩:=hrel;have eX:=zh ho;have b_:=zh hs;clear ho hs
    by_cases mH:j<es.length
    ·obtain⟨⟨x1,x2⟩,hx⟩:=aM es j mH;obtain⟨b1,oZ,rfl,j6,iq⟩:=r9.out j _ hx;have t1:=ae j6 wr b_.out;have t2:=ae iq wr b_.out;have iL:Hid (es.getD j (0,0)=(x1,x2)):=au hx;obtain⟨w8,kH⟩:∃w8,w8=wr.alloc (.cells #[.int .i64 x1,.int .i64 x2] 83):=⟨_,rfl⟩
     obtain⟨be,lW⟩:∃be,be=wr.heap.size:=⟨_,rfl⟩
     have d0:∀W,aa w8 W->W.cell? ⟨be,0,none⟩=some (.int .i64 x1):=ae (by rw[kH,lW];simp)
     have d1:∀W,aa w8 W->W.cell? ⟨be,1,none⟩=some (.int .i64 x2):=ae (by rw[kH,lW];simp)
     have uw:Hid (qk w8 w0.heap.size u3 (eJ n k++oA k es j)):=by rw[kH];exact eX.out.keep (ag _ (ad _))
     have kt:Hid (aa w0 w8):=by rw[kH];exact ag _ b_.out
     have Kc:=zh kH;have WN:=zh lW;have m3:IntKind.i64.wrap ((j:Int)+1)=(j:Int)+1:=aF _ (by omega) (by omega);clear hx j6 iq kH lW;go_upto_region 8 with(fail);rw[<- Kc.out,<- WN.out];clear t1 t2;refine aS 16 (aa w8) (ad _) ?_;simp only[zT]
     iterate 5 (refine bU rfl ?_;simp only[zA])
     iterate 5 (refine im rfl rfl ?_;simp only[zA])
     iterate 4 (apply gZ rfl rfl;(intro hb bj;intro W hW;go_simp;with_reducible rfl);simp only[zA])
     refine jP rfl rfl rfl ?_;simp only[zA]
     (first | refine dO rfl rfl ?_ | (refine bU rfl ?_));simp only[zA]
     intro W hW;have HsW:=zh (kt.out.after hW);have LY:=zh (uw.out.keep hW);have c0:=d0 W hW;have c1:=d1 W hW
     have cJ:Hid ((eJ n k++oA k es j).length+1<=1000000):=by
      have h1:=WJ.out;have h2:=Du k es j;show _<=_
      rw[List.length_append];omega
     have oy:Hid (eJ n k++oA k es (j+1)=(eJ n k++oA k es j)++sn k j (x1,x2)):=by show _=_;rw[zY,iL.out,List.append_assoc]
     cases hg:(decide ((k:Int)<x1)||((k:Int)==x1&&decide ((j:Int)<=x2)))
     ·have q9:Hid (sn k j (x1,x2)=[]):=by show _=_;unfold sn;rw[if_neg];rw[show jL k j (x1,x2)=false from hg];simp
      clear hg hW d0 d1 c0 c1;go_wp2;go_roundw
      case rel=>exact⟨j+1,by omega,by go_num,by rw[oy.out,q9.out,List.append_nil];exact LY.out,HsW.out⟩
      case measure=>simp[intOf];omega
     ·have abK:Hid (sn k j (x1,x2)=[((k:Int),(j:Int),x1,x2)]):=by show _=_;unfold sn;rw[if_pos (show jL k j (x1,x2)=true from hg)]
      clear hg hW d0 d1
      go_wp2_with (at_builtin;refine M5 rfl _ _ rfl rfl (LY.out.keep (ag _ (ad _))) W.heap.size ((k:Int),(j:Int),x1,x2) rfl (by simp[go_sem]) (by simp[go_sem]) (by simp[go_sem]) (by simp[go_sem]) cJ.out (ag _ HsW.out) ?_;intro g9 c9 w9 iS WO)
      have vP:=zh iS;have z7:=zh WO;clear iS WO c0 c1;go_wp2;go_roundw
      case rel=>exact⟨j+1,by omega,by go_num,by rw[oy.out,abK.out];have:=vP.out;first | exact this | (rw[List.length_append]at this;exact this),z7.out⟩
      case measure=>simp[intOf];omega
    ·obtain rfl:j=es.length:=by omega
     have oy:Hid (eJ n (k+1)=eJ n k++oA k es es.length):=by show _=_;rw[sp,Mw.out]
     have m3:IntKind.i64.wrap ((k:Int)+1)=(k:Int)+1:=aF _ (by omega) (by omega);go_wp2;go_roundw
     case rel=>exact⟨k+1,by omega,by go_num,by rw[oy.out];exact eX.out,b_.out⟩
     case measure=>simp[intOf];omega
  ·obtain rfl:k=n.ends.length:=by omega
   go_wp2;go_ret;exact⟨_,rfl,Ho.out.mono aT.out.size,aa.after aT.out Hs.out⟩
inductive ku (E:List (Nat×Nat)) (a:Nat):Nat->Prop
 | refl:ku E a a
 | step {b c:Nat}:ku E a b->((b,c)∈E\/(c,b)∈E)->ku E a c
theorem ku.trans {E:List (Nat×Nat)} {a b c:Nat} (h:ku E a b) (k:ku E b c):ku E a c:=by
 induction k with
 | refl=>exact h
 | step _ hs ih=>exact ih.step hs
theorem ku.one {E:List (Nat×Nat)} {a b:Nat} (h:(a,b)∈E\/(b,a)∈E):ku E a b:=ku.refl.step h
theorem ku.symm {E:List (Nat×Nat)} {a b:Nat} (h:ku E a b):ku E b a:=by
 induction h with
 | refl=>exact .refl
 | step _ hs ih=>exact(ku.one hs.symm).trans ih
theorem ku.sub {E F:List (Nat×Nat)} (hs:∀e∈E,e∈F) {a b:Nat} (h:ku E a b):ku F a b:=by
 induction h with
 | refl=>exact .refl
 | step _ k ih=>exact ih.step (k.imp (hs _) (hs _))
theorem ku.aer {E:List (Nat×Nat)} {x y a b:Nat}:ku ((a,b)::E) x y↔ku E x y\/(ku E x a/\ku E b y)\/(ku E x b/\ku E a y):=by
 constructor
 ·intro h
  induction h with
  | refl=>exact .inl .refl
  | @step u v _ k ih=>
   have k':(u=a/\v=b)\/(u=b/\v=a)\/((u,v)∈E\/(v,u)∈E):=by
    rcases k with k | k
    ·rcases List.mem_cons.1 k with e | k
     ·cases e;exact .inl ⟨rfl,rfl⟩
     ·exact .inr (.inr (.inl k))
    ·rcases List.mem_cons.1 k with e | k
     ·cases e;exact .inr (.inl ⟨rfl,rfl⟩)
     ·exact .inr (.inr (.inr k))
   rcases k' with⟨rfl,rfl⟩ | ⟨rfl,rfl⟩ | k'
   ·rcases ih with ih | ⟨i1,i2⟩ | ⟨i1,i2⟩
    ·exact .inr (.inl ⟨ih,.refl⟩)
    ·exact .inr (.inl ⟨i1,.refl⟩)
    ·exact .inl i1
   ·rcases ih with ih | ⟨i1,i2⟩ | ⟨i1,i2⟩
    ·exact .inr (.inr ⟨ih,.refl⟩)
    ·exact .inl i1
    ·exact .inr (.inr ⟨i1,.refl⟩)
   ·rcases ih with ih | ⟨i1,i2⟩ | ⟨i1,i2⟩
    ·exact .inl (ih.step k')
    ·exact .inr (.inl ⟨i1,i2.step k'⟩)
    ·exact .inr (.inr ⟨i1,i2.step k'⟩)
 ·have s:∀ {u v},ku E u v->ku ((a,b)::E) u v:=fun h=>h.sub fun e he=>List.mem_cons_of_mem _ he
  have e:ku ((a,b)::E) a b:=ku.one (.inl (by simp))
  rintro(h | ⟨h1,h2⟩ | ⟨h1,h2⟩)
  ·exact s h
  ·exact(s h1).trans (e.trans (s h2))
  ·exact(s h1).trans (e.symm.trans (s h2))
def qF (E:List (Nat×Nat)) (v:Nat):Prop:=∀u,ku E v u->v<=u
theorem z_ (E:List (Nat×Nat)):∀(k a:Nat),a<=k->∃m,ku E a m/\qF E m:=by
 intro k
 induction k with
 | zero=>intro a ha;exact⟨a,.refl,fun u _=>by omega⟩
 | succ k ih=>
  intro a ha
  by_cases h:qF E a
  ·exact⟨a,.refl,h⟩
  ·unfold qF at h
   have ⟨u,hu⟩:=Classical.not_forall.1 h
   have ⟨h1,h2⟩:=Classical.not_imp.1 hu
   obtain⟨m,g1,g2⟩:=ih u (by omega);exact⟨m,h1.trans g1,g2⟩
theorem qF.eq {E:List (Nat×Nat)} {a b:Nat} (ha:qF E a) (hb:qF E b) (h:ku E a b):a=b:=Nat.le_antisymm (ha b h) (hb a h.symm)
open Classical in
noncomputable def parts (E:List (Nat×Nat)) (n:Nat):Nat:=(List.range n).countP fun v=>decide (qF E v)
def FW (E:List (Nat×Nat)) (n:Nat):Prop:=∀e∈E,e.1<n/\e.2<n
theorem Kd {n m:Nat} (P Q:Nat->Bool) (hm:m<n) (hq:Q m=true) (h:∀v,v<n->P v=(Q v&&v != m)):(List.range n).countP P+1=(List.range n).countP Q:=by
 induction n with
 | zero=>omega
 | succ n ih=>
  rw[List.range_succ,List.countP_append,List.countP_append]
  by_cases he:m=n
  ·subst he
   have e1:(List.range m).countP P=(List.range m).countP Q:=by
    apply List.countP_congr
    intro v hv;have WP:=List.mem_range.1 hv;rw[h v (by omega)]
    simp;omega
   have e2:P m=false:=by rw[h m (by omega)];simp
   rw[e1];simp[e2,hq]
  ·have i:=ih (by omega) (fun v hv=>h v (by omega))
   have e2:P n=Q n:=by rw[h n (by omega)];simp;omega
   rw[<- i];simp[e2]
   omega
open Classical in
theorem xi {E:List (Nat×Nat)} {n a b:Nat} (h:ku E a b):parts ((a,b)::E) n=parts E n:=by
 unfold parts;apply List.countP_congr
 intro v _
 have:∀u,ku ((a,b)::E) v u↔ku E v u:=by
  intro u;rw[ku.aer]
  exact⟨fun k=>by
   rcases k with k | ⟨k1,k2⟩ | ⟨k1,k2⟩
   ·exact k
   ·exact(k1.trans h).trans k2
   ·exact(k1.trans h.symm).trans k2,.inl⟩
 rw[decide_eq_true_eq,decide_eq_true_eq];exact forall_congr' fun u=>by rw[this]
open Classical in
theorem xj {E:List (Nat×Nat)} {n a b:Nat} (h:¬ku E a b) (ha:a<n) (hb:b<n):parts ((a,b)::E) n+1=parts E n:=by
 obtain⟨la,a1,a2⟩:=z_ E a a (Nat.le_refl _);obtain⟨lb,b1,b2⟩:=z_ E b b (Nat.le_refl _);have Ke:la<=a:=a2 a a1.symm;have tB:lb<=b:=b2 b b1.symm
 have gM:la≠lb:=fun e=>h (a1.trans (by rw[e];exact b1.symm))
 unfold parts;refine Kd (m:=max la lb) _ _ (by omega) ?_ ?_
 ·rcases Nat.le_total la lb with k | k
  ·rw[Nat.max_eq_right k];simpa using b2
  ·rw[Nat.max_eq_left k];simpa using a2
 ·intro v _;rw[Bool.eq_iff_iff];simp only[decide_eq_true_eq,Bool.and_eq_true,bne_iff_ne,ne_eq];have hj:ku ((a,b)::E) la lb:=ku.aer.2 (.inr (.inl ⟨a1.symm,b1⟩));constructor
  ·intro hv;refine⟨fun u hu=>hv u (ku.aer.2 (.inl hu)),fun e=>?_⟩
   rcases Nat.le_total la lb with k | k
   ·rw[Nat.max_eq_right k]at e;subst e;have:=hv la hj.symm;omega
   ·rw[Nat.max_eq_left k]at e;subst e;have:=hv lb hj;omega
  ·rintro⟨hv,hm⟩ u hu;rcases ku.aer.1 hu with k | ⟨k1,k2⟩ | ⟨k1,k2⟩
   ·exact hv u k
   ·have e:=qF.eq hv a2 (k1.trans a1)
    have:=b2 u (b1.symm.trans k2)
    omega
   ·have e:=qF.eq hv b2 (k1.trans b1)
    have:=a2 u (a1.symm.trans k2)
    omega
open Classical in
theorem Aa (n:Nat):parts [] n=n:=by
 unfold parts;rw[List.countP_eq_length.2]
 ·simp
 ·intro v _
  have:qF [] v:=by
   intro u hu
   have:∀ {x y},ku [] x y->x=y:=by
    intro x y h
    induction h with
    | refl=>rfl
    | step _ k _=>simp at k
   rw[this hu];exact Nat.le_refl _
  simpa using this
theorem M7 {E:List (Nat×Nat)} {n:Nat} (h:FW E n):n<=parts E n+E.length:=by
 induction E with
 | nil=>rw[Aa];simp
 | cons e E ih=>
  obtain⟨a,b⟩:=e;have i:=ih fun e he=>h e (List.mem_cons_of_mem _ he)
  have te:=h (a,b) (by simp)
  by_cases hc:ku E a b
  ·rw[xi hc];simp;omega
  ·have:=xj hc te.1 te.2
   simp;omega
open Classical in
theorem FX {E F:List (Nat×Nat)} {n:Nat} (h:∀e,e∈E↔e∈F):parts E n=parts F n:=by
 unfold parts;apply List.countP_congr
 intro v _
 have:∀u,ku E v u↔ku F v u:=fun u=>⟨ku.sub fun e=>(h e).1,ku.sub fun e=>(h e).2⟩
 rw[decide_eq_true_eq,decide_eq_true_eq];exact forall_congr' fun u=>by rw[this]
theorem qG {α:Type} {E:List α} {i:Nat} {e:α} (h:E[i]?=some e) (x:α):x∈E↔x∈e::E.eraseIdx i:=by
 obtain⟨hl,rfl⟩:=List.getElem?_eq_some_iff.1 h;rw[List.eraseIdx_eq_take_drop_succ];have e:E=E.take i++E[i]::E.drop (i+1):=by rw[<- List.drop_eq_getElem_cons hl,List.take_append_drop]
 have e2:x∈E↔x∈E.take i++E[i]::E.drop (i+1):=by rw[<- e]
 rw[e2];simp only[List.mem_append,List.mem_cons];constructor
 ·rintro(k | k | k)
  ·exact .inr (.inl k)
  ·exact .inl k
  ·exact .inr (.inr k)
 ·rintro(k | k | k)
  ·exact .inr (.inl k)
  ·exact .inl k
  ·exact .inr (.inr k)
theorem FY {E:List (Nat×Nat)} {n:Nat} (h:FW E n):parts E n+E.length=n↔∀(i:Nat) (e:Nat×Nat),E[i]?=some e->¬ku (E.eraseIdx i) e.1 e.2:=by
 constructor
 ·intro hn i e he hc;obtain⟨hl,_⟩:=List.getElem?_eq_some_iff.1 he;have e1:parts E n=parts (e::E.eraseIdx i) n:=FX (qG he);have e2:=xi (n:=n) hc;have e3:=M7 (E:=E.eraseIdx i) (n:=n) fun x hx=>h x (List.mem_of_mem_eraseIdx hx)
  rw[List.length_eraseIdx_of_lt hl]at e3;rw[show(e.1,e.2)=e from rfl]at e2;omega
 ·intro hb
  induction E with
  | nil=>rw[Aa];simp
  | cons e E ih=>
   obtain⟨a,b⟩:=e;have te:=h (a,b) (by simp);have h0:=hb 0 (a,b) rfl;simp only[List.eraseIdx_cons_zero]at h0
   have i:=ih (fun e he=>h e (List.mem_cons_of_mem _ he)) fun i e he hc=>hb (i+1) e (by simpa using he) (hc.sub fun x hx=>by rw[List.eraseIdx_cons_succ];exact List.mem_cons_of_mem _ hx)
   have:=xj h0 te.1 te.2
   simp;omega
def M8 (n:ak):List (Nat×Nat):=(ch n).map fun e=>(e.1.toNat,e.2.2.1.toNat)
def bv (n:ak) (v i:Nat) (f:Int×Int):Prop:=(n.ends.getD v [])[i]?=some f
theorem df {n:ak} (hn:al n=true) {v i:Nat} {f:Int×Int} (h:bv n v i f):v<n.ends.length/\0<=f.1/\f.1<n.ends.length/\0<=f.2/\bv n f.1.toNat f.2.toNat ((v:Int),(i:Int)):=by
 have hv:v<n.ends.length:=by
  rcases Nat.lt_or_ge v n.ends.length with h1 | h1
  ·exact h1
  ·unfold bv at h;rw[zDd,List.getElem?_eq_none h1]at h;simp at h
 have hi:=an h
 have hp:cj n.ends (v:Int) (i:Int)=true:=by
  unfold cj;rw[Bool.and_eq_true,ap,ap];simp only[Int.toNat_natCast];omega
 have he:fN n.ends (v:Int) (i:Int)=f:=by
  unfold fN;simp only[Int.toNat_natCast];exact au h
 obtain⟨h1,h2⟩:=tq hn hp;rw[he]at h1 h2;unfold cj at h1;rw[Bool.and_eq_true,ap,ap]at h1;refine⟨hv,h1.1.1,by omega,h1.2.1,?_⟩
 have hl:f.2.toNat<(n.ends.getD f.1.toNat []).length:=by omega
 obtain⟨y,hy⟩:=aM _ _ hl;unfold fN at h2;rw[au hy]at h2;unfold bv;rw[hy,h2]
theorem jv {n:ak} {a b:Nat}:(b:Int)∈eh n (a:Int)↔∃(i:Nat) (f:Int×Int),bv n a i f/\f.1=(b:Int):=by
 rw[nC];constructor
 ·rintro⟨j,q,h⟩;exact⟨j,_,h,rfl⟩
 ·rintro⟨i,f,h,e⟩;exact⟨i,f.2,by rw[<- e];exact h⟩
theorem b7 {n:ak} {e:Ed}:e∈ch n↔∃(v i:Nat) (f:Int×Int),v<n.ends.length/\bv n v i f/\jL v i f=true/\e=((v:Int),(i:Int),f.1,f.2):=by
 rw[Kb];constructor
 ·rintro⟨v,i,hv,hi,hk,rfl⟩;obtain⟨f,hf⟩:=aM _ _ hi;rw[au hf]at hk ⊢;exact⟨v,i,f,hv,hf,hk,rfl⟩
 ·rintro⟨v,i,f,hv,hp,hk,rfl⟩;have CG:(dX n v)[i]?=some f:=hp;refine⟨v,i,hv,an CG,?_,?_⟩
  ·rw[au CG];exact hk
  ·rw[au CG]
theorem Bz {v i:Nat} {f:Int×Int} (h1:0<=f.1) (h2:0<=f.2) (h:jL v i f=false):jL f.1.toNat f.2.toNat ((v:Int),(i:Int))=true/\jL v i f=false:=by
 refine⟨?_,h⟩
 unfold jL at h ⊢
 simp only[Bool.or_eq_false_iff,Bool.and_eq_false_iff,decide_eq_false_iff_not,beq_eq_false_iff_ne,ne_eq]at h;simp only[Bool.or_eq_true,Bool.and_eq_true,decide_eq_true_eq,beq_iff_eq];rw[Int.toNat_of_nonneg h1,Int.toNat_of_nonneg h2];omega
theorem Kf {v i:Nat} {f:Int×Int} (h1:0<=f.1) (h2:0<=f.2) (h:jL v i f=true) (h':jL f.1.toNat f.2.toNat ((v:Int),(i:Int))=true):f=((v:Int),(i:Int)):=by
 unfold jL at h h';simp only[Bool.or_eq_true,Bool.and_eq_true,decide_eq_true_eq,beq_iff_eq]at h h';rw[Int.toNat_of_nonneg h1,Int.toNat_of_nonneg h2]at h';obtain⟨a,b⟩:=f;simp only at h h' h1 h2
 rw[Prod.mk.injEq];omega
theorem M9 {n:ak} (hn:al n=true) {F:List Ed} (keep:Nat->Nat->Bool) (hF:∀e,e∈F↔e∈ch n/\keep e.1.toNat e.2.1.toNat=true)
  (hk:∀v i f,bv n v i f->keep v i=keep f.1.toNat f.2.toNat) {a b:Nat} (R:Nat->Nat->Prop) (Yk:∀a,R a a) (gJ:∀ {a b c:Nat},R a b->(∃i f,bv n b i f/\keep b i=true/\f.1=(c:Int))->R a c)
  (abL:∀ {a b:Nat},R a b->∀(M:Nat->Prop),M a->(∀b c:Nat,M b->(∃i f,bv n b i f/\keep b i=true/\f.1=(c:Int))->M c)->M b):
  ku (F.map fun e=>(e.1.toNat,e.2.2.1.toNat)) a b↔R a b:=by
 have one:∀ {x y:Nat},(x,y)∈(F.map fun e=>(e.1.toNat,e.2.2.1.toNat))↔∃i f,bv n x i f/\keep x i=true/\f.1=(y:Int)/\jL x i f=true:=by
  intro x y;rw[List.mem_map];constructor
  ·rintro⟨e,he,JR⟩;obtain⟨h1,h2⟩:=(hF e).1 he;obtain⟨v,i,f,hv,hp,BA,rfl⟩:=b7.1 h1;simp only[Int.toNat_natCast,Prod.mk.injEq]at JR h2;obtain⟨rfl,rfl⟩:=JR;exact⟨i,f,hp,h2,(Int.toNat_of_nonneg (df hn hp).2.1).symm,BA⟩
  ·rintro⟨i,f,hp,h2,hf,BA⟩;refine⟨((x:Int),(i:Int),f.1,f.2),(hF _).2 ⟨b7.2 ⟨x,i,f,(df hn hp).1,hp,BA,rfl⟩,by simpa using h2⟩,?_⟩
   simp[hf]
 constructor
 ·intro h
  induction h with
  | refl=>exact Yk _
  | @step b c _ hs ih=>
   refine gJ ih ?_;rcases hs with hs | hs
   ·obtain⟨i,f,h1,h2,h3,_⟩:=one.1 hs;exact⟨i,f,h1,h2,h3⟩
   ·obtain⟨i,f,h1,h2,h3,_⟩:=one.1 hs;obtain⟨g1,g2,g3,g4,g5⟩:=df hn h1;rw[h3,Int.toNat_natCast]at g5;refine⟨f.2.toNat,_,g5,?_,rfl⟩
    have:=hk _ _ _ h1
    rw[h3,Int.toNat_natCast]at this
    rw[<- this];exact h2
 ·intro h;refine abL h (fun z=>ku _ a z) .refl ?_
  rintro x y hx ⟨i,f,h1,h2,h3⟩;refine hx.step ?_
  by_cases BA:jL x i f=true
  ·exact .inl (one.2 ⟨i,f,h1,h2,h3,BA⟩)
  ·obtain⟨g1,g2,g3,g4,g5⟩:=df hn h1;have M_:=(Bz g2 g4 (by simpa using BA)).1;have FZ:=hk _ _ _ h1;rw[h3,Int.toNat_natCast]at g5 M_ FZ
   exact .inr (one.2 ⟨f.2.toNat,_,g5,by rw[<- FZ];exact h2,rfl,M_⟩)
theorem IU {n:ak} (hn:al n=true) {a b:Nat}:ku (M8 n) a b↔f6 n a b:=by
 refine M9 hn (F:=ch n) (fun _ _=>true) (by simp) (by simp) (f6 n) (fun _=>.refl) ?_ ?_
 ·rintro a b c h ⟨i,f,h1,_,h3⟩;exact h.step (jv.2 ⟨i,f,h1,h3⟩)
 ·intro a b h M h0 hM
  induction h with
  | refl=>exact h0
  | step _ hs ih=>
   obtain⟨i,f,h1,h3⟩:=jv.1 hs;exact hM _ _ ih ⟨i,f,h1,rfl,h3⟩
theorem F5 {n:ak} (hn:al n=true):FW (M8 n) n.ends.length:=by
 intro e he;obtain⟨x,hx,rfl⟩:=List.mem_map.1 he;obtain⟨v,i,f,hv,hp,_,rfl⟩:=b7.1 hx
 have:=df hn hp
 simp only[Int.toNat_natCast];omega
def jR (n:ak) (k:Nat):Nat:=(List.range k).countP fun v=>ai n v==v
open Classical in
theorem Dv {n:ak} (hn:al n=true):jR n n.ends.length=parts (M8 n) n.ends.length:=by
 unfold jR parts
 apply List.countP_congr
 intro v hv;have WP:=List.mem_range.1 hv;rw[decide_eq_true_eq];obtain⟨l1,l2,l3⟩:=bu hn WP;constructor
 ·intro h u hu
  have:=l3 u ((IU hn).1 hu)
  simp only[beq_iff_eq]at h;omega
 ·intro h;have h1:=h _ ((IU hn).2 l1);have h2:=Dh hn WP;simp only[beq_iff_eq];omega
theorem Dw (n:ak):(ch n).Nodup:=by
 unfold ch eJ
 unfold List.Nodup;rw[List.pairwise_flatMap]
 have one:∀v es k e,e∈oA v es k->e.1=(v:Int):=by
  intro v es k e he;unfold oA at he;obtain⟨j,_,hj⟩:=List.mem_flatMap.1 he;unfold sn at hj
  split at hj
  ·rw[List.mem_singleton.1 hj]
  ·simp at hj
 constructor
 ·intro v _;unfold oA;rw[List.pairwise_flatMap];constructor
  ·intro j _;unfold sn
   split <;> simp
  ·refine List.Pairwise.imp ?_ (List.pairwise_lt_range (n:=(dX n v).length));intro i j CW x hx y hy e;subst e;unfold sn at hx hy
   split at hx
   ·split at hy
    ·have a:=List.mem_singleton.1 hx;have b:=List.mem_singleton.1 hy;rw[a]at b;simp only[Prod.mk.injEq]at b;omega
    ·simp at hy
   ·simp at hx
 ·refine List.Pairwise.imp ?_ (List.pairwise_lt_range (n:=n.ends.length));intro u v huv x hx y hy e;subst e;have a:=one _ _ _ _ hx;have b:=one _ _ _ _ hy;omega
def iD (keep:Nat->Nat->Bool) (v k:Nat):Nat:=((List.range k).filter (keep v)).length
def fm (n:ak) (keep:Nat->Nat->Bool) (v k:Nat):List (Int×Int):=((List.range k).filter (keep v)).map fun i=>(((dX n v).getD i (0,0)).1,((iD keep ((dX n v).getD i (0,0)).1.toNat ((dX n v).getD i (0,0)).2.toNat:Nat):Int))
def jS (n:ak) (keep:Nat->Nat->Bool) (v:Nat):List (Int×Int):=fm n keep v (dX n v).length
def gW (n:ak) (keep:Nat->Nat->Bool):ak:={ n with ends:=(List.range n.ends.length).map (jS n keep) }
theorem pV (keep:Nat->Nat->Bool) (v k:Nat):iD keep v (k+1)=iD keep v k+(if keep v k then 1 else 0):=by
 unfold iD;rw[List.range_succ,List.filter_append,List.length_append]
 cases h:keep v k <;> simp[h]
theorem nE (n:ak) (keep:Nat->Nat->Bool) (v k:Nat):fm n keep v (k+1)=fm n keep v k++(if keep v k then [(((dX n v).getD k (0,0)).1,((iD keep ((dX n v).getD k (0,0)).1.toNat ((dX n v).getD k (0,0)).2.toNat:Nat):Int))] else []):=by
 unfold fm;rw[List.range_succ,List.filter_append,List.map_append]
 cases h:keep v k <;> simp[h]
theorem i_ (n:ak) (keep:Nat->Nat->Bool) (v k:Nat):(fm n keep v k).length=iD keep v k:=by simp[fm,iD]
theorem Kg (keep:Nat->Nat->Bool) (v:Nat) {j k:Nat} (h:j<=k):iD keep v j<=iD keep v k:=by
 induction k with
 | zero => obtain rfl : j = 0 := by omega
           exact Nat.le_refl _
 | succ k ih=>
  rcases Nat.lt_or_ge k j with h1 | h1
  ·obtain rfl:j=k+1:=by omega
   exact Nat.le_refl _
  ·rw[pV];have:=ih h1;omega
theorem QI (keep:Nat->Nat->Bool) (v:Nat) {j k:Nat} (h:j<k) (hk:keep v j=true):iD keep v j<iD keep v k:=by
 have h1:=Kg keep v (j:=j+1) (k:=k) (by omega);rw[pV,hk]at h1;simp at h1
 omega
theorem BB (keep:Nat->Nat->Bool) (v k:Nat):iD keep v k<=k:=by
 unfold iD
 have:=List.length_filter_le (keep v) (List.range k)
 simpa using this
theorem Kh (n:ak) (keep:Nat->Nat->Bool) (v:Nat):∀(k j:Nat),j<k->keep v j=true->(fm n keep v k)[iD keep v j]?=some (((dX n v).getD j (0,0)).1,((iD keep ((dX n v).getD j (0,0)).1.toNat ((dX n v).getD j (0,0)).2.toNat:Nat):Int)):=by
 intro k
 induction k with
 | zero=>intro j hj;omega
 | succ k ih=>
  intro j hj hk;rw[nE];rcases Nat.lt_or_ge j k with h | h
  ·rw[List.getElem?_append_left (by rw[i_];exact QI keep v h hk)]
   exact ih j h hk
  ·obtain rfl:j=k:=by omega
   rw[List.getElem?_append_right (by rw[i_];exact Nat.le_refl _),i_,hk]
   simp
theorem F6 (n:ak) (keep:Nat->Nat->Bool) (v:Nat):∀(k m:Nat) (f:Int×Int),(fm n keep v k)[m]?=some f->∃j,j<k/\keep v j=true/\m=iD keep v j/\f=(((dX n v).getD j (0,0)).1,((iD keep ((dX n v).getD j (0,0)).1.toNat ((dX n v).getD j (0,0)).2.toNat:Nat):Int)):=by
 intro k
 induction k with
 | zero=>intro m f h;simp[fm]at h
 | succ k ih=>
  intro m f h;rw[nE]at h;rcases Nat.lt_or_ge m (fm n keep v k).length with hm | hm
  ·rw[List.getElem?_append_left hm]at h;obtain⟨j,a,b⟩:=ih m f h;exact⟨j,by omega,b⟩
  ·rw[List.getElem?_append_right hm]at h
   cases hk:keep v k with
   | false=>rw[hk]at h;simp at h
   | true=>
    rw[hk]at h;simp only[if_true]at h
    have:=an h
    simp only[List.length_cons,List.length_nil]at this;rw[i_]at hm this;have y5:m-iD keep v k=0:=by omega
    rw[i_,y5]at h;simp only[List.getElem?_cons_zero,Option.some.injEq]at h;exact⟨k,by omega,hk,by omega,h.symm⟩
theorem vQ (n:ak) (keep:Nat->Nat->Bool) {v:Nat} (hv:v<n.ends.length):(gW n keep).ends.getD v []=jS n keep v:=by
 rw[zDd];simp[gW,hv]
theorem mI {n:ak} (hn:al n=true) (keep:Nat->Nat->Bool) {v m:Nat} {g:Int×Int}:bv (gW n keep) v m g↔∃j f,bv n v j f/\keep v j=true/\m=iD keep v j/\g=(f.1,((iD keep f.1.toNat f.2.toNat:Nat):Int)):=by
 constructor
 ·intro h
  have hv:v<n.ends.length:=by
   rcases Nat.lt_or_ge v n.ends.length with h1 | h1
   ·exact h1
   ·unfold bv at h;have hl:(gW n keep).ends.length=n.ends.length:=by simp[gW]
    rw[zDd,List.getElem?_eq_none (l:=(gW n keep).ends) (by rw[hl];exact h1)]at h
    simp at h
  unfold bv at h;rw[vQ n keep hv]at h;obtain⟨j,h1,h2,h3,h4⟩:=F6 n keep v _ m g h;obtain⟨f,hf⟩:=aM _ _ h1;rw[au hf]at h4;exact⟨j,f,hf,h2,h3,h4⟩
 ·rintro⟨j,f,hp,hk,rfl,rfl⟩;have hv:=(df hn hp).1;have CG:(dX n v)[j]?=some f:=hp;unfold bv;rw[vQ n keep hv]
  have:=Kh n keep v (dX n v).length j (an CG) hk
  rw[au CG]at this;exact this
theorem re {n:ak} (hn:al n=true) (keep:Nat->Nat->Bool) (hk:∀v i f,bv n v i f->keep v i=keep f.1.toNat f.2.toNat):al (gW n keep)=true:=by
 have hl:(gW n keep).ends.length=n.ends.length:=by simp[gW]
 have SJ:=hn
 unfold al at hn ⊢
 rw[hl];simp only[Bool.and_eq_true]at hn ⊢
 refine⟨hn.1,?_⟩;rw[List.all_eq_true];intro v hv;have WP:=List.mem_range.1 hv;have h0:=List.all_eq_true.1 hn.2 v hv
 unfold gS at h0 ⊢
 rw[vQ n keep WP];simp only[Bool.and_eq_true,decide_eq_true_eq]at h0 ⊢
 constructor
 ·unfold jS;rw[i_]
  have:=BB keep v (dX n v).length
  have h1:=h0.1
  unfold dX at this ⊢
  omega
 ·rw[List.all_eq_true];intro m hm;have LZ:=List.mem_range.1 hm;obtain⟨g,hg⟩:=aM _ _ LZ;rw[au hg]
  have hpg:bv (gW n keep) v m g:=by unfold bv;rw[vQ n keep WP];exact hg
  obtain⟨j,f,hp,hkj,rfl,rfl⟩:=(mI SJ keep).1 hpg;obtain⟨g1,g2,g3,g4,g5⟩:=df SJ hp
  have Yl:keep f.1.toNat f.2.toNat=true:=by rw[<- hk v j f hp];exact hkj
  have qy:bv (gW n keep) f.1.toNat (iD keep f.1.toNat f.2.toNat) ((v:Int),((iD keep v j:Nat):Int)):=(mI SJ keep).2 ⟨f.2.toNat,_,g5,Yl,rfl,by simp⟩
  have hlt:=an qy
  unfold jt cj yB
  simp only[Int.toNat_natCast,Bool.and_eq_true,ap,decide_eq_true_eq];rw[hl];exact⟨⟨by omega,by omega⟩,au qy⟩
theorem QJ {n:ak} (hn:al n=true) (keep:Nat->Nat->Bool) (hk:∀v i f,bv n v i f->keep v i=keep f.1.toNat f.2.toNat) {F:List Ed} (hF:∀e,e∈F↔e∈ch n/\keep e.1.toNat e.2.1.toNat=true) {a b:Nat}:
  ku (F.map fun e=>(e.1.toNat,e.2.2.1.toNat)) a b↔f6 (gW n keep) a b:=by
 refine M9 hn keep hF hk (f6 (gW n keep)) (fun _=>.refl) ?_ ?_
 ·rintro a b c h ⟨i,f,h1,h2,h3⟩;exact h.step (jv.2 ⟨_,_,(mI hn keep).2 ⟨i,f,h1,h2,rfl,rfl⟩,h3⟩)
 ·intro a b h M h0 hM
  induction h with
  | refl=>exact h0
  | step _ hs ih=>
   obtain⟨m,g,h1,h3⟩:=jv.1 hs;obtain⟨i,f,k1,k2,k3,k4⟩:=(mI hn keep).1 h1;exact hM _ _ ih ⟨i,f,k1,k2,by rw[<- h3,k4]⟩
def et (v i:Nat) (f:Int×Int) (x j:Nat):Bool:=!((x==v&&j==i)||(x==f.1.toNat&&j==f.2.toNat))
theorem j9 {n:ak} (hn:al n=true) {v i:Nat} {f:Int×Int} (hp:bv n v i f):∀x j g,bv n x j g->et v i f x j=et v i f g.1.toNat g.2.toNat:=by
 intro x j g hg;obtain⟨g1,g2,g3,g4,g5⟩:=df hn hg;obtain⟨f1,f2,f3,f4,f5⟩:=df hn hp
 have Ym:x=v->j=i->g=f:=by
  rintro rfl rfl;unfold bv at hg hp;rw[hg]at hp;exact Option.some.inj hp
 have Yn:x=f.1.toNat->j=f.2.toNat->g=((v:Int),(i:Int)):=by
  rintro rfl rfl;unfold bv at hg f5;rw[hg]at f5;exact Option.some.inj f5
 have Yo:g.1.toNat=v->g.2.toNat=i->x=f.1.toNat/\j=f.2.toNat:=by
  intro h1 h2;rw[h1,h2]at g5;unfold bv at g5 hp;rw[g5]at hp
  have:=Option.some.inj hp
  rw[<- this];simp
 have Yp:g.1.toNat=f.1.toNat->g.2.toNat=f.2.toNat->x=v/\j=i:=by
  intro h1 h2;rw[h1,h2]at g5;unfold bv at g5 f5;rw[g5]at f5
  have:=Option.some.inj f5
  simp only[Prod.mk.injEq]at this;omega
 unfold et;congr 1
 rw[Bool.eq_iff_iff];simp only[Bool.or_eq_true,Bool.and_eq_true,beq_iff_eq];constructor
 ·rintro(⟨h1,h2⟩ | ⟨h1,h2⟩)
  ·rw[Ym h1 h2];exact .inr ⟨rfl,rfl⟩
  ·rw[Yn h1 h2];exact .inl ⟨by simp,by simp⟩
 ·rintro(⟨h1,h2⟩ | ⟨h1,h2⟩)
  ·exact .inr (Yo h1 h2)
  ·exact .inl (Yp h1 h2)
theorem rf {n:ak} (hn:al n=true):((ch n).length+jR n n.ends.length=n.ends.length)↔∀v i f,bv n v i f->¬f6 (gW n (et v i f)) v f.1.toNat:=by
 have h0:=FY (F5 hn);have LX:(M8 n).length=(ch n).length:=by simp[M8]
 rw[LX,<- Dv hn]at h0;rw[Nat.add_comm,h0]
 have Uw:∀(k:Nat) (e:Ed),(ch n)[k]?=some e->∀x,x∈(ch n).eraseIdx k↔x∈ch n/\x≠e:=by
  intro k e he x;have hnd:=Dw n;have h1:=qG he;obtain⟨hl,hee⟩:=List.getElem?_eq_some_iff.1 he
  have h2:e∉(ch n).eraseIdx k:=by
   rw[List.eraseIdx_eq_take_drop_succ];have e1:ch n=(ch n).take k++e::(ch n).drop (k+1):=by rw[<- hee,<- List.drop_eq_getElem_cons hl,List.take_append_drop]
   rw[e1]at hnd;have h3:=List.nodup_append.1 hnd;have h4:=List.nodup_cons.1 h3.2.1;intro hm;rcases List.mem_append.1 hm with hm | hm
   ·exact h3.2.2 e hm e (by simp) rfl
   ·exact h4.1 hm
  constructor
  ·intro hx;exact⟨(h1 x).2 (List.mem_cons_of_mem _ hx),fun e2=>h2 (e2 ▸ hx)⟩
  ·rintro⟨hx,gM⟩;rcases List.mem_cons.1 ((h1 x).1 hx)with e2 | e2
   ·exact absurd e2 gM
   ·exact e2
 have rJ:∀(k v i:Nat) (f:Int×Int),bv n v i f->jL v i f=true->(ch n)[k]?=some ((v:Int),(i:Int),f.1,f.2)->∀a b,ku ((M8 n).eraseIdx k) a b↔f6 (gW n (et v i f)) a b:=by
  intro k v i f hp BA he a b
  have:(M8 n).eraseIdx k=((ch n).eraseIdx k).map fun e=>(e.1.toNat,e.2.2.1.toNat):=by
   unfold M8;rw[List.eraseIdx_eq_take_drop_succ,List.eraseIdx_eq_take_drop_succ,List.map_append,List.map_take,List.map_drop]
  rw[this];refine QJ hn _ (j9 hn hp) ?_;intro e;rw[Uw k _ he e];apply and_congr_right
  intro hm;obtain⟨x,j,g,hx,CU,hkx,rfl⟩:=b7.1 hm;obtain⟨f1,f2,f3,f4,f5⟩:=df hn hp;simp only[Int.toNat_natCast,et,Bool.not_eq_true',Bool.or_eq_false_iff,Bool.and_eq_false_iff,beq_eq_false_iff_ne,ne_eq,Prod.mk.injEq];constructor
  ·intro gM;constructor
   ·rcases Nat.lt_trichotomy x v with h | h | h
    ·exact .inl (by omega)
    ·subst h;refine .inr fun oo=>?_
     subst oo;unfold bv at CU hp;rw[CU]at hp;have hgf:=Option.some.inj hp;subst hgf;exact gM ⟨rfl,rfl,rfl,rfl⟩
    ·exact .inl (by omega)
   ·by_cases h1:x=f.1.toNat
    ·refine .inr fun h2=>?_
     subst h1 h2;unfold bv at CU f5;rw[CU]at f5;have hg:=Option.some.inj f5;subst hg;have hff:=Kf f2 f4 BA hkx;subst hff;simp at gM
    ·exact .inl h1
  ·rintro⟨h1,_⟩ ⟨q1,q2,_⟩
   rcases h1 with h1 | h1 <;> omega
 constructor
 ·intro hb v i f hp hr;obtain⟨f1,f2,f3,f4,f5⟩:=df hn hp
  by_cases BA:jL v i f=true
  ·obtain⟨k,hk⟩:=List.mem_iff_getElem?.1 (b7.2 ⟨v,i,f,f1,hp,BA,rfl⟩);refine hb k (v,f.1.toNat) ?_ ((rJ k v i f hp BA hk _ _).2 hr);unfold M8;rw[List.getElem?_map,hk];simp
  ·have M_:=(Bz f2 f4 (by simpa using BA)).1;obtain⟨k,hk⟩:=List.mem_iff_getElem?.1 (b7.2 ⟨f.1.toNat,f.2.toNat,_,by omega,f5,M_,rfl⟩)
   refine hb k (f.1.toNat,v) ?_ ((rJ k _ _ _ f5 M_ hk _ _).2 ?_)
   ·unfold M8;rw[List.getElem?_map,hk];simp only[Option.map_some,Int.toNat_natCast]
   ·have hx:et f.1.toNat f.2.toNat ((v:Int),(i:Int))=et v i f:=by
     funext x j
     unfold et;simp only[Int.toNat_natCast];rw[Bool.or_comm]
    rw[hx];exact f6.symm (re hn _ (j9 hn hp)) (by simpa[gW]using f1) hr
 ·intro hb k e he hc;unfold M8 at he;rw[List.getElem?_map]at he
  cases hk:(ch n)[k]? with
  | none=>rw[hk]at he;simp at he
  | some x=>
   rw[hk]at he;obtain⟨v,i,f,hv,hp,BA,rfl⟩:=b7.1 (List.mem_of_getElem? hk);simp only[Option.map_some,Option.some.injEq,Int.toNat_natCast]at he;subst he;exact hb v i f hp ((rJ k v i f hp BA hk _ _).1 hc)
def fg (n:ak) (v:Nat) (r:Int) (k:Nat):List Int:=((List.range k).filter fun w=>ey 0 r ((bS n v).getD w 0)).map Int.ofNat
theorem ux {n:ak} {v:Nat} {r:Int} {k:Nat} {d:Int} (h:(bS n v)[k]?=some d):fg n v r (k+1)=if ey 0 r d then fg n v r k++[(k:Int)] else fg n v r k:=by
 unfold fg;rw[List.range_succ,List.filter_append,List.map_append];have e:(bS n v).getD k 0=d:=au h
 cases hb:ey 0 r d <;> simp only[List.filter_cons,List.filter_nil,e,hb] <;> simp
theorem xk (n:ak) (v:Nat) (r:Int) (k:Nat):(fg n v r k).length<=k:=by
 unfold fg;rw[List.length_map];exact Nat.le_trans (List.length_filter_le _ _) (by simp)
theorem sq {n:ak} (hn:al n=true) {v w:Nat} (hv:v<n.ends.length) (hw:w<n.ends.length) : -1<=(bS n v).getD w 0/\(bS n v).getD w 0<n.ends.length:=by
 have hl:(bS n v).length=n.ends.length:=kQ hn _ _ _ (BI.start hv);refine MU hn (n.ends.length+1) _ 0 (BI.start hv) _ ?_;show(bS n v).getD w 0∈bS n v
 rw[zDd,List.getElem?_eq_getElem (by omega)];exact List.getElem_mem _
theorem xl {n:ak} (hn:al n=true) {v:Nat} (hv:v<n.ends.length):(fg n v 40 n.ends.length)[0]?=some (ai n v:Int):=by
 have e:((List.range n.ends.length).filter fun w=>ey 0 40 ((bS n v).getD w 0))=(List.range n.ends.length).filter fun w=>decide (0<=(bS n v).getD w 0):=by
  apply List.filter_congr
  intro w hw
  have:=sq hn hv (List.mem_range.1 hw)
  have:=(aE hn).2
  rw[Bool.eq_iff_iff,ap,decide_eq_true_eq];omega
 have hs:=bu hn hv;unfold fg;rw[e,List.getElem?_map]
 have:((List.range n.ends.length).filter fun w=>decide (0<=(bS n v).getD w 0))[0]?=some (ai n v):=by
  rw[<- List.head?_eq_getElem?,List.head?_filter];unfold ai
  cases h:(List.range n.ends.length).find? fun w=>decide (0<=(bS n v).getD w 0) with
  | none=>
   have:=List.find?_eq_none.1 h v (List.mem_range.2 hv)
   exact absurd (decide_eq_true ((h_ hn hv hv).2 f6.refl)) this
  | some u=>rfl
 rw[this];rfl
theorem F7 (ve vi vn:Value) (n:ak) (v:Nat) (r:Int) (w:World) (h:aQ w ve vi vn n) (hn:al n=true) (hv:v<n.ends.length):
  Calls Tryz.prog 210 #[.agg #[ve,vi,vn],.int .i64 v,.int .i64 r] w fun e w'=>∃u,e=.returned u/\Own w' w.heap.size u (fg n v r n.ends.length)/\Below w.heap.size w w':=by
 have eS:=aE hn;have rg:=eS.1;have rh:=eS.2;have Hn:=zh hn
 obtain⟨w0,A,c,A2,c2,A3,c3,rfl,rfl,rfl,eV,hm,fJ,fB,HA,bK,aT,H,dL,dR,dU⟩:=zB h;clear h
 have bB:aa w0 w0:=ad _;clear hn eS
 go_enter Tryz.func210,Tryz.ntmps210
 go_upto_region 1 with(fail);rw[<- bK.out];go_wp2_with fail;refine(i9 _ _ _ n v w0 H.out Hn.out hv).mono ?_;obtain⟨ds,Ab⟩:∃ds,ds=bS n v:=⟨_,rfl⟩
 rw[<- Ab];rintro e w2 ⟨u2,rfl,dl,bj⟩
 have Ac:ds.length=n.ends.length:=by rw[Ab];exact kQ Hn.out _ _ _ (BI.start hv)
 obtain⟨gd,cd,rfl⟩:∃gd cd,u2=.slice (some ⟨gd,0,none⟩) n.ends.length cd:=by
  rcases dl.cases with⟨-,e1⟩ | ⟨gd,cd,rfl,iH,lh⟩
  ·have:=congrArg List.length e1;rw[List.length_nil]at this;omega
  ·exact⟨gd,cd,by rw[Ac]⟩
 have eX:=zh dl;have b_:=zh (bB.trans bj);have Yq:=zh Ab;have Na:=zh Ac;clear dl bj Ab Ac bB;go_wp2
 go_loopw [7,14] (fun u i wr=>∃k:Nat,k<=n.ends.length/\i=.int .i64 k/\Own wr w2.heap.size u (fg n v r k)/\aa w2 wr) (fun _ i _=>n.ends.length-(intOf i).toNat)
 case atStart=>exact⟨0,Nat.zero_le _,rfl,by simpa[fg]using bH _ w2.heap.size,ad _⟩
 case round=>
  obtain⟨k,hk,rfl,ho,bA⟩:=hrel;have Ho:=zh ho;have Hs:=zh bA;clear ho bA
  by_cases hlt:k<n.ends.length
  ·have m3:IntKind.i64.wrap ((k:Int)+1)=(k:Int)+1:=aF _ (by omega) (by omega)
   obtain⟨d,hd⟩:=aM ds k (by rw[Na.out];exact hlt)
   have Nb:=(eX.out.since Hs.out).cell hd
   have jm:=zh (ux (r:=r) (show(bS n v)[k]?=some d by rw[<- Yq.out];exact hd))
   have cJ:Hid ((fg n v r k).length+1<=17592186044416):=by show _<=_;have:=xk n v r k;omega
   clear hd;go_upto_region 5 with(fail);go_wp2_with fail;refine(k7 _ _ _ _).mono ?_;rintro e w' ⟨rfl,rfl⟩;cases hb:ey 0 r d
   ·rw[hb]at jm;clear Nb;go_wp2;go_roundw
    case rel=>exact⟨k+1,by omega,by first | rfl | go_num,by rw[jm.out];exact Ho.out,Hs.out⟩
    case measure=>simp[intOf];omega
   ·rw[hb]at jm;clear Nb
    go_wp2_with (at_builtin;refine dy rfl _ _ rfl rfl (Ho.out.since (ag _ (ad _))) wr.heap.size k rfl (by simp[go_sem]) cJ.out (ag _ Hs.out) ?_;intro g cc w3 eH hZ)
    have i8:=zh eH;have ew:=zh hZ;clear eH hZ;go_wp2;go_roundw
    case rel=>exact⟨k+1,by omega,by first | rfl | go_num,by rw[jm.out,if_pos trivial];exact i8.out,ew.out⟩
    case measure=>simp[intOf];omega
  ·obtain rfl:k=n.ends.length:=by omega
   clear hk hlt;go_wp2;go_ret;exact⟨_,rfl,Ho.out.mono (Nat.le_trans aT.out.size b_.out.below.size),aa.after aT.out (b_.out.after Hs.out)⟩
def f_ (n:ak) (v:Nat):Int:=(bS n (ai n v)).getD v 0%2
def ml (n:ak):List Int:=(List.range n.ends.length).map (f_ n)
theorem Nc (n:ak):(ml n).length=n.ends.length:=by simp[ml]
theorem pi {n:ak} {v:Nat} (hv:v<n.ends.length):(ml n)[v]?=some (f_ n v):=by
 unfold ml;rw[List.getElem?_map,List.getElem?_range hv];rfl
theorem Ki (n:ak) (k:Nat):(List.range (k+1)).map (f_ n)=(List.range k).map (f_ n)++[f_ n k]:=by rw[List.range_succ,List.map_append];rfl
theorem cM {n:ak} (hn:al n=true) {v:Nat} (hv:v<n.ends.length):ai n v<n.ends.length:=(bu hn hv).2.1
theorem xm {n:ak} (hn:al n=true) {v:Nat} (hv:v<n.ends.length):0<=(bS n (ai n v)).getD v 0/\(bS n (ai n v)).getD v 0<n.ends.length:=
 ⟨(h_ hn (cM hn hv) hv).2 ((tz hn (cM hn hv) hv (nD hn hv)).2 rfl),(sq hn (cM hn hv) hv).2⟩
theorem IV {n:ak} (hn:al n=true) {v:Nat} (hv:v<n.ends.length) {d:Int} (hd:(bS n (ai n v))[v]?=some d):Int.tmod d 2=f_ n v:=by
 have h:=xm hn hv;unfold f_;rw[au hd]at h ⊢;exact Int.tmod_eq_emod_of_nonneg h.1
def nG (n:ak):Ed->Bool:=fun e=>(ml n).getD e.1.toNat 0==(ml n).getD e.2.2.1.toNat 0
def lk (n:ak) (v:Nat):Int->Bool:=fun w=>f_ n v==(ml n).getD w.toNat 0
def ll (n:ak):Bool:=!(ch n).any (nG n)
theorem fP {n:ak} {v:Nat} (hv:v<n.ends.length):(ml n).getD v 0=f_ n v:=au (pi hv)
theorem pW {n:ak} (hn:al n=true):ll n=(List.range n.ends.length).all fun v => !(eh n (v:Int)).any (lk n v):=by
 unfold ll;rw[Bool.eq_iff_iff];simp only[Bool.not_eq_true',List.any_eq_false,List.all_eq_true,List.mem_range];constructor
 ·intro h v hv x hx hc
  rw[show x=((x.toNat:Nat):Int)by have:=nB hn (cur:=(v:Int)) (by omega) x hx;omega]at hx
  obtain⟨i,f,hp,hf⟩:=jv.1 hx;obtain⟨p1,p2,p3,p4,p5⟩:=df hn hp;have hxf:x.toNat=f.1.toNat:=by omega
  unfold lk at hc;rw[hxf,fP (by omega)]at hc
  by_cases hk:jL v i f=true
  ·refine h _ (b7.2 ⟨v,i,f,hv,hp,hk,rfl⟩) ?_;unfold nG;simp only[Int.toNat_natCast];rw[fP hv,fP (by omega)];exact hc
  ·have nY:=(Bz p2 p4 (by simpa using hk)).1;refine h _ (b7.2 ⟨f.1.toNat,f.2.toNat,((v:Int),(i:Int)),by omega,p5,nY,rfl⟩) ?_
   unfold nG;simp only[Int.toNat_natCast];rw[fP hv,fP (by omega)];simp only[beq_iff_eq]at hc ⊢
   exact hc.symm
 ·intro h e he hc;obtain⟨v,i,f,hv,hp,_,rfl⟩:=b7.1 he;obtain⟨p1,p2,p3,p4,p5⟩:=df hn hp;refine h v hv f.1 ?_ ?_
  ·rw[show f.1=((f.1.toNat:Nat):Int)by omega]
   exact jv.2 ⟨i,f,hp,by omega⟩
  ·unfold lk;unfold nG at hc;simp only[Int.toNat_natCast]at hc;rw[fP hv]at hc;exact hc
def fQ (n:ak) (l:List Int) (v:Nat):Bool:=!((bt l (n.ends.getD v [])).contains (l.getD v 0))
def gh (n:ak):Nat->List Int->Int->Nat->Option (Option (List Int))
 | 0,_,_,_=>none
 | f+1,l,v,s=>
  if (l.length:Int)<=v then some (some l)
  else if v<0 then some none
  else if l.getD v.toNat 0=2 then gh n f (l.set v.toNat (-1)) (v-1) s
  else if s=200000 then none
  else gh n f (l.set v.toNat (l.getD v.toNat 0+1)) (if fQ n (l.set v.toNat (l.getD v.toNat 0+1)) v.toNat then v+1 else v) (s+1)
def oB (v:Int) (s:Nat):Nat:=(200000-s)*2+(v+1).toNat
structure vo (n:ak) (l:List Int) (v:Int) (s:Nat) (f:Nat):Prop where
 len:l.length=n.ends.length
 rng:∀x∈l,-1<=x/\x<=2
 lo : -1<=v
 hi:v<=(n.ends.length:Int)
 st:s<=200000
 fu:oB v s<f
theorem IW {l:List Int} {k:Nat} {y:Int} (h:∀x∈l,-1<=x/\x<=2) (hy : -1<=y/\y<=2):∀x∈l.set k y,-1<=x/\x<=2:=fun x hx=>by
 rcases List.mem_or_eq_of_mem_set hx with hx | rfl
 ·exact h x hx
 ·exact hy
theorem BC {n:ak} {l:List Int} {v:Int} {s f:Nat} (h:vo n l v s f) (hv:(n.ends.length:Int)<=v):gh n f l v s=some (some l):=by
 obtain⟨g,rfl⟩:∃g,f=g+1:=⟨f-1,by have:=h.fu;omega⟩
 unfold gh
 rw[if_pos (by rw[h.len];exact hv)]
theorem BE {n:ak} {l:List Int} {v:Int} {s f:Nat} (h:vo n l v s f) (hl:v<(n.ends.length:Int)) (hv:v<0):gh n f l v s=some none:=by
 obtain⟨g,rfl⟩:∃g,f=g+1:=⟨f-1,by have:=h.fu;omega⟩
 unfold gh
 rw[if_neg (by rw[h.len];omega),if_pos hv]
theorem BF {n:ak} {l:List Int} {k s f:Nat} (h:vo n l (k:Int) s (f+1)) (hl:k<n.ends.length) (hx:l[k]?=some 2):gh n (f+1) l (k:Int) s=gh n f (l.set k (-1)) ((k:Int)-1) s/\vo n (l.set k (-1)) ((k:Int)-1) s f:=by
 constructor
 ·conv=>lhs;unfold gh
  rw[if_neg (by rw[h.len];omega),if_neg (by omega),Int.toNat_natCast,au hx,if_pos rfl]
 ·have h1:=h.fu;unfold oB at h1
  exact⟨by rw[List.length_set];exact h.len,IW h.rng (by omega),by omega,by omega,h.st,by unfold oB;omega⟩
theorem BG {n:ak} {l:List Int} {k f:Nat} {x:Int} (h:vo n l (k:Int) 200000 (f+1)) (hl:k<n.ends.length) (hx:l[k]?=some x) (h2:x≠2):gh n (f+1) l (k:Int) 200000=none:=by
 unfold gh
 rw[if_neg (by rw[h.len];omega),if_neg (by omega),Int.toNat_natCast,au hx,if_neg h2,if_pos rfl]
theorem Nd {n:ak} {l:List Int} {k s f:Nat} {x:Int} (h:vo n l (k:Int) s (f+1)) (hl:k<n.ends.length) (hx:l[k]?=some x) (h2:x≠2) (hs:s≠200000):
  gh n (f+1) l (k:Int) s=gh n f (l.set k (x+1)) (if fQ n (l.set k (x+1)) k then (k:Int)+1 else (k:Int)) (s+1)/\vo n (l.set k (x+1)) (if fQ n (l.set k (x+1)) k then (k:Int)+1 else (k:Int)) (s+1) f:=by
 have hr:=h.rng x (List.mem_of_getElem? hx);constructor
 ·conv=>lhs;unfold gh
  rw[if_neg (by rw[h.len];omega),if_neg (by omega),Int.toNat_natCast,au hx,if_neg h2,if_neg hs]
 ·have h1:=h.fu;have h3:=h.st;unfold oB at h1
  refine⟨by rw[List.length_set];exact h.len,IW h.rng (by omega),?_,?_,by omega,?_⟩
  ·split <;> omega
  ·split <;> omega
  ·unfold oB;split <;> omega
theorem xn {n:ak}:vo n (List.replicate n.ends.length (-1)) 0 0 400002:=⟨by simp,fun x hx=>by have:=(List.mem_replicate.1 hx).2;omega,by omega,by omega,by omega,by unfold oB;omega⟩
theorem BH {n:ak} {l:List Int} {v:Int} {s f:Nat} (h:vo n l v s f):∃g,f=g+1:=⟨f-1,by have:=h.fu;omega⟩
def Ux (aey:List Int->Nat->Bool) (aU QK:Int):Nat->List Int->Nat->Int->List Int×Int×Int
 | 0,_,_,made=>([],0,made)
 | f+1,ls,v,made=>
  if v<ls.length then
   if ls.getD v 0=aU then (if v=0 then ([],2,made) else Ux aey aU QK f (ls.set v (-1)) (v-1) made)
   else if made=QK then ([],3,made)
   else Ux aey aU QK f (ls.set v (ls.getD v 0+1)) (if aey (ls.set v (ls.getD v 0+1)) v then v+1 else v) (made+1)
  else (ls,1,made)
theorem pj (ls:List Int) (v j:Nat) (x:Int) (hj:j<ls.length):(ls.set v x).getD j 0=if v=j then x else ls.getD j 0:=by
 simp only[zDd,List.getElem?_set]
 split
 ·rename_i e;subst e;simp[hj]
 ·rfl
structure St (N:Nat) (aU:Int) (ls:List Int) (v:Nat):Prop where
 len:ls.length=N
 lo:∀j,j<v->j<N->0<=ls.getD j 0/\ls.getD j 0<=aU
 at_:v<N -> -1<=ls.getD v 0/\ls.getD v 0<=aU
 hi:∀j,v<j->j<N->ls.getD j 0 = -1
structure Up (N:Nat) (aU:Int) (ls:List Int) (v:Nat):Prop where
 len:ls.length=N
 lo:∀j,j<=v->j<N->0<=ls.getD j 0/\ls.getD j 0<=aU
 hi:∀j,v<j->j<N->ls.getD j 0 = -1
theorem St.start (N:Nat) (aU:Int) (hm:0<=aU):St N aU (List.replicate N (-1)) 0 where
 len:=by simp
 lo:=fun j hj=>by omega
 at_:=fun h=>by simp[zDd,List.getElem?_replicate,h];omega
 hi:=fun j _ h=>by simp[zDd,List.getElem?_replicate,h]
theorem St.back {N:Nat} {aU:Int} {ls:List Int} {v:Nat} (h:St N aU ls v) (h0:¬v=0):St N aU (ls.set v (-1)) (v-1) where
 len:=by simp[h.len]
 lo:=fun j hj hn=>by rw[pj _ _ _ _ (by rw[h.len];exact hn),if_neg (by omega)];exact h.lo j (by omega) hn
 at_:=fun hn=>by rw[pj _ _ _ _ (by rw[h.len];exact hn),if_neg (by omega)];have:=h.lo (v-1) (by omega) hn;omega
 hi:=fun j hj hn=>by
  rw[pj _ _ _ _ (by rw[h.len];exact hn)]
  split
  ·rfl
  ·exact h.hi j (by omega) hn
theorem St.up {N:Nat} {aU:Int} {ls:List Int} {v:Nat} (h:St N aU ls v) (hv:v<N) (hm:¬ls.getD v 0=aU):Up N aU (ls.set v (ls.getD v 0+1)) v where
 len:=by simp[h.len]
 lo:=fun j hj hn=>by
  rw[pj _ _ _ _ (by rw[h.len];exact hn)]
  have:=h.at_ hv
  split
  ·omega
  ·exact h.lo j (by omega) hn
 hi:=fun j hj hn=>by rw[pj _ _ _ _ (by rw[h.len];exact hn),if_neg (by omega)];exact h.hi j hj hn
theorem Up.stay {N:Nat} {aU:Int} {ls:List Int} {v:Nat} (h:Up N aU ls v):St N aU ls v where
 len:=h.len
 lo:=fun j hj hn=>h.lo j (by omega) hn
 at_:=fun hn=>by have:=h.lo v (Nat.le_refl _) hn;omega
 hi:=h.hi
theorem Up.on {N:Nat} {aU:Int} {ls:List Int} {v:Nat} (h:Up N aU ls v) (hm:0<=aU):St N aU ls (v+1) where
 len:=h.len
 lo:=fun j hj hn=>h.lo j (by omega) hn
 at_:=fun hn=>by have:=h.hi (v+1) (by omega) hn;omega
 hi:=fun j hj hn=>h.hi j (by omega) hn
def Yr (QK made:Int) (N v:Nat):Nat:=(QK-made).toNat*(N+2)+v+1
def Uy (n:ak) (w:Int) (v:Nat):Bool:=decide (w<=v)&&((n.ends.getD w.toNat []).map fun e=>e.1).all (ey 0 v)
def Ys (n:ak) (v:Nat):List Int:=((n.ends.getD v []).map fun e=>e.1)++[(v:Int)]
def Yt (n:ak) (acc:List Int->Nat->Bool) (ls:List Int) (v:Nat):Bool:=(Ys n v).all fun w => !Uy n w v||acc ls w.toNat
theorem ao (n:Int) (w:World):Calls Tryz.prog 70 #[.int .i64 n] w fun e w'=>e=.returned (.bool (ey 0 999999999999 n))/\w=w':=by
 go_enter Tryz.func70,Tryz.ntmps70
 go_wp2_with (go_at_call 71;refine(aO _ _ _ _).mono ?_;rintro e w' ⟨rfl,rfl⟩)
 go_ret;exact⟨rfl,rfl⟩
def aH (s:Int):List Int:=if s=4 then [100] else if s=5 then [100,10,2] else []
theorem fo (s:Int) (w:World):
  Calls Tryz.prog 180 #[.int .i64 s] w fun e w'=>∃u,e=.returned u/\Own w' w.heap.size u (aH s)/\Below w.heap.size w w':=by
 unfold aH
 by_cases h4:s=4
 ·subst h4
  go_enter Tryz.func180,Tryz.ntmps180
  go_wp2;go_ret;exact⟨_,rfl,gU w [100] (by simp[maxLen]),am _ _⟩
 ·by_cases h5:s=5
  ·subst h5
   go_enter Tryz.func180,Tryz.ntmps180
   go_wp2;go_ret;exact⟨_,rfl,gU w [100,10,2] (by simp[maxLen]),am _ _⟩
  ·have h4':(s==4)=false:=by simpa using h4
   have wH:(s==5)=false:=by simpa using h5
   rw[if_neg h4,if_neg h5];clear h4 h5
   go_enter Tryz.func180,Tryz.ntmps180
   go_wp2;go_ret;exact⟨_,rfl,bH _ _,Below.refl _ _⟩
theorem bY (s:Int) (w:World):
  Calls Tryz.prog 111 #[.int .i64 s] w fun e w'=>∃u,e=.returned u/\Own w' w.heap.size u (aH s)/\Below w.heap.size w w':=by
 unfold aH
 by_cases h4:s=4
 ·subst h4
  go_enter Tryz.func111,Tryz.ntmps111
  go_wp2;go_ret;exact⟨_,rfl,gU w [100] (by simp[maxLen]),am _ _⟩
 ·by_cases h5:s=5
  ·subst h5
   go_enter Tryz.func111,Tryz.ntmps111
   go_wp2;go_ret;exact⟨_,rfl,gU w [100,10,2] (by simp[maxLen]),am _ _⟩
  ·have h4':(s==4)=false:=by simpa using h4
   have wH:(s==5)=false:=by simpa using h5
   rw[if_neg h4,if_neg h5];clear h4 h5
   go_enter Tryz.func111,Tryz.ntmps111
   go_wp2;go_ret;exact⟨_,rfl,bH _ _,Below.refl _ _⟩
theorem Own.lit {w:World} {base:Nat} {v:Value} {x:Int} {xs:List Int} (h:Own w base v (x::xs)):∃g c,v=.slice (some ⟨g,0,none⟩) (xs.length+1) c/\base<=g/\g<w.heap.size/\xs.length+1<=c/\∀k y,(x::xs)[k]?=some y->w.cell? ⟨g,k,none⟩=some (.int .i64 y):=by
 rcases h.2 with⟨rfl,h0⟩ | ⟨g,cap,cur,rfl,hb,hg,vG,hm,lT,wm⟩
 ·simp at h0
 ·exact⟨g,cap,rfl,hb,(Array.getElem?_eq_some_iff.1 hg).1,vG,fun k y hy=>Own.cell h hy⟩
theorem Own.aeO {w:World} {base:Nat} {v:Value} (h:Own w base v []):∃A c,v=.slice A 0 c:=by
 rcases h.2 with⟨rfl,h0⟩ | ⟨g,cap,cur,rfl,_⟩
 ·exact⟨_,_,rfl⟩
 ·exact⟨_,_,rfl⟩
theorem aY.lit {w:World} {v:Value} {x:Int} {xs:List Int} (h:aY w v (x::xs)):∃b off c,v=.slice (some ⟨b,off,none⟩) (xs.length+1) c/\b<w.heap.size/\∀k y,(x::xs)[k]?=some y->w.cell? ⟨b,off+k,none⟩=some (.int .i64 y):=by
 obtain⟨A,c,rfl,eV,hm,hA⟩:=h;obtain⟨b,off,rfl,h0⟩:=hA 0 x rfl;refine⟨b,off,c,rfl,World.block_lt_of_cell? w _ h0,fun k y hy=>?_⟩
 obtain⟨b',oY,he,hc⟩:=hA k y hy
 injection he with he
 injection he with h1 h2
 subst h1 h2;exact hc
theorem IX (v:Value) (a b c d:Int) (w:World) (h:aY w v [a,b,c,d]) (ha:0<=a) (Yu:a<=999999999999) (hb:0<=b) (hb':b<=99) (hc:0<=c) (MN:c<=9) (hd:0<=d) (WQ:d<=1):
  Calls Tryz.prog 167 #[.int .i64 5,v] w fun e w'=>e=.returned (.int .i64 (((a*100+b)*10+c)*2+d))/\Below w.heap.size w w':=by
 obtain⟨B,off,cp,rfl,hB,d9⟩:=h.lit;have c0:=d9 0 a rfl;have c1:=d9 1 b rfl;have c2:=d9 2 c rfl;have c3:=d9 3 d rfl;clear d9 h;simp only[Nat.add_zero]at c0
 go_enter Tryz.func167,Tryz.ntmps167
 go_wp2_with fail;refine(fo _ _).mono ?_;rintro e w1 ⟨u,rfl,ho,ay⟩;obtain⟨g,cc,rfl,hg,lh,uy,d9⟩:=Own.lit (show Own w1 _ u (100::[10,2])from ho);have r0:=d9 0 100 rfl;have r1:=d9 1 10 rfl;have r2:=d9 2 2 rfl;clear d9;have d0:=(ay.cell (p:=⟨B,off,none⟩) hB).trans c0;have d1:=(ay.cell (p:=⟨B,off+1,none⟩) hB).trans c1;have d2:=(ay.cell (p:=⟨B,off+2,none⟩) hB).trans c2;have d3:=(ay.cell (p:=⟨B,off+3,none⟩) hB).trans c3;have eD:=zh ay;clear ho ay c0 c1 c2 c3;go_wp2;refine wp_loop_rounds 4 ?_
 iterate 4
  rw[rounds_succ];go_wp2
 go_ret;exact⟨rfl,eD.out⟩
theorem QL (v:Value) (a b:Int) (w:World) (h:aY w v [a,b]) (ha:0<=a) (Yu:a<=999999999999) (hb:0<=b) (hb':b<=99):
  Calls Tryz.prog 167 #[.int .i64 4,v] w fun e w'=>e=.returned (.int .i64 (a*100+b))/\Below w.heap.size w w':=by
 obtain⟨B,off,cp,rfl,hB,d9⟩:=h.lit;have c0:=d9 0 a rfl;have c1:=d9 1 b rfl;clear d9 h;simp only[Nat.add_zero]at c0
 go_enter Tryz.func167,Tryz.ntmps167
 go_wp2_with fail;refine(fo _ _).mono ?_;rintro e w1 ⟨u,rfl,ho,ay⟩;obtain⟨g,cc,rfl,hg,lh,uy,d9⟩:=Own.lit (show Own w1 _ u (100::[])from ho);have r0:=d9 0 100 rfl;clear d9;have d0:=(ay.cell (p:=⟨B,off,none⟩) hB).trans c0;have d1:=(ay.cell (p:=⟨B,off+1,none⟩) hB).trans c1;have eD:=zh ay;clear ho ay c0 c1;go_wp2;refine wp_loop_rounds 2 ?_
 iterate 2
  rw[rounds_succ];go_wp2
 go_ret;exact⟨rfl,eD.out⟩
end Go.Proofs.YtgmdpppljkmabaaGreat
