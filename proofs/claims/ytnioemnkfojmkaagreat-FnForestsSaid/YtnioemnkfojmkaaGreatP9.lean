/- Parts of the proof: walks of functions and plain laws. -/
import Derived.Test.YtnioemnkfojmkaaGreatP8
import Derived.Test.YtnioemnkfojmkaaGreatP7
set_option maxRecDepth 100000
set_option maxHeartbeats 16000000
namespace Go.Proofs.YtnioemnkfojmkaaGreat
open Go Go.RowKit
abbrev Ed:=Int×Int×Int×Int
def qH (e:Ed):List Value:=[.int .i64 e.1,.int .i64 e.2.1,.int .i64 e.2.2.1,.int .i64 e.2.2.2]
theorem Oc:(Tryz.prog.info? 126).map (fun i=>(i.zero,i.size,i.bytes))=some (some (.agg #[.int .i64 0,.int .i64 0,.int .i64 0,.int .i64 0]),4,32):=zK
def sW (w:World) (base:Nat) (v:Value) (xs:List Ed):Prop:=w.ownsRow base 126 4 v xs.length (xs.flatMap qH)
theorem G4:∀ {xs:List Ed} {k:Nat} {x:Ed},xs[k]?=some x->(xs.flatMap qH)[k*4]?=some (.int .i64 x.1)/\(xs.flatMap qH)[k*4+1]?=some (.int .i64 x.2.1)/\(xs.flatMap qH)[k*4+2]?=some (.int .i64 x.2.2.1)/\(xs.flatMap qH)[k*4+3]?=some (.int .i64 x.2.2.2)
 | [],_,_,h=>by simp at h
 | y::xs,0,x,h=>by simp at h;subst h;simp[qH]
 | y::xs,k+1,x,h=>by
  obtain⟨h1,h2,h3,h4⟩:=G4 (xs:=xs) (k:=k) (x:=x) (by simpa using h)
  have e:∀j,((y::xs).flatMap qH)[(k+1)*4+j]?=(xs.flatMap qH)[k*4+j]?:=fun j=>by
   rw[List.flatMap_cons,Zca (by simp[qH];omega)]
   congr 1
   simp[qH];omega
  exact⟨(e 0).trans h1,(e 1).trans h2,(e 2).trans h3,(e 3).trans h4⟩
theorem sW.agU {w w':World} {base:Nat} {v:Value} {xs:List Ed} (h:sW w base v xs) (hb:ab w w'):sW w' base v xs:=aD h fun k hk=>hb.below.block k (Zad h k (by simpa using hk)).2
theorem sW.mono {w:World} {base mq:Nat} {v:Value} {xs:List Ed} (h:sW w base v xs) (hb:mq<=base):sW w mq v xs:=gW h hb
theorem Ry (w:World) (base:Nat):sW w base (.slice none 0 0) []:=World.ownsRow_nil w base _ _
def Rz (W:World) (v:Value) (xs:List Ed):Prop:=∃A c,v=.slice A xs.length c/\c<=maxLen/\xs.length<=c/\∀k x,xs[k]?=some x->∃b,A=some ⟨b,0,none⟩/\W.cell? ⟨b,k*4,none⟩=some (.int .i64 x.1)/\W.cell? ⟨b,k*4+1,none⟩=some (.int .i64 x.2.1)/\W.cell? ⟨b,k*4+2,none⟩=some (.int .i64 x.2.2.1)/\W.cell? ⟨b,k*4+3,none⟩=some (.int .i64 x.2.2.2)
theorem sW.read {w:World} {base:Nat} {v:Value} {xs:List Ed} (h:sW w base v xs):Rz w v xs:=by
 have h':=h;rcases h.2 with⟨rfl,hn⟩ | ⟨g,cap,cur,rfl,hb,hg,JI,DJ,fD,htk⟩
 ·have:xs=[]:=Zae hn
  subst this;exact⟨none,0,rfl,Zac _,Zaj _,fun k x hk=>by simp at hk⟩
 ·refine⟨_,cap,rfl,DJ,JI,fun k x hk=>⟨g,rfl,?_⟩⟩
  obtain⟨h1,h2,h3,h4⟩:=G4 hk;have oV:=ah hk
  exact⟨by rw[World.ownsRow.cellAt (cap:=cap) h' _ zO];exact h1,by rw[World.ownsRow.cellAt (cap:=cap) h' _ zO];exact h2,by rw[World.ownsRow.cellAt (cap:=cap) h' _ zO];exact h3,by rw[World.ownsRow.cellAt (cap:=cap) h' _ zO];exact h4⟩
theorem RA {w w0:World} {ops:Array Oper} {rest:List Oper} {o:Oper} {a:Act} {Q:Exit->Act->World->Prop} (gT:o.guard=none) (s x:Operand)
  (ho:o.op=.call { callee:=.builtin .append,args:=#[s,x],argTypes:=#[122,122] }) {v:Value} {xs:List Ed} (hs:a.eval s=v) (h:sW w w0.heap.size v xs) (b:Nat) (y:Ed)
  (hx:a.eval x=.slice (some ⟨b,0,none⟩) 1 1) (xL:w.cell? ⟨b,0,none⟩=some (.int .i64 y.1)) (dk:w.cell? ⟨b,1,none⟩=some (.int .i64 y.2.1)) (jT:w.cell? ⟨b,2,none⟩=some (.int .i64 y.2.2.1)) (pC:w.cell? ⟨b,3,none⟩=some (.int .i64 y.2.2.2)) (hl:xs.length+1<=1000000) (kj:ab w0 w)
  (k:∀g cap w',sW w' w0.heap.size (.slice (some ⟨g,0,none⟩) (xs.length+1) cap) (xs++[y])->ab w0 w'->wpList Tryz.prog ops Q rest (a.put o.dst (.slice (some ⟨g,0,none⟩) (xs.length+1) cap)) w'):wpList Tryz.prog ops Q (o::rest) a w:=by
 obtain⟨i0,hi,e_,dP,dY⟩:=info_parts Oc
 refine wpList_append_lies w gT s x 122 ho w0.heap.size 126 i0 _ 4 32 Tryz.underlying122 hi e_ dP dY rfl (by decide) v xs.length (xs.flatMap qH) hs h ⟨b,0,none⟩ 1 1 (qH y) hx rfl
  (by
   intro j u hj;rw[Go.Addr.add_lit,Zba]
   match j,hj with
   | 0,hj=>simp[qH]at hj;subst hj;exact xL
   | 1,hj=>simp[qH]at hj;subst hj;exact dk
   | 2,hj=>simp[qH]at hj;subst hj;exact jT
   | 3,hj=>simp[qH]at hj;subst hj;exact pC
   | j+4,hj=>simp[qH]at hj) (by simp[qH,Value.oneCell']) zO (by unfold maxLen;omega) zO kj.below.size w.heap.size rfl ?_
 intro g cap w' h1 h2 h3 h4;refine k g cap w' ?_ (Below.grown kj h2 kj.below.size (fun q hq=>(Zad h q hq).1))
 unfold sW;simpa using h1
def Yc (w0:World) (nQ:FuncId) (jX:Array Value) (p:Ed->Bool) (xs:List Ed):Prop:=
 ∀x∈xs,∀w,ab w0 w->Calls Tryz.prog nQ (#[.agg #[.int .i64 x.1,.int .i64 x.2.1,.int .i64 x.2.2.1,.int .i64 x.2.2.2]]++jX) w fun e w'=>e=.returned (.bool (p x))/\Below w.heap.size w w'
def E4 (p:Ed->Bool) (xs:List Ed):Int:=match xs.findIdx? p with | some i=>(i:Int) | none => -1
theorem Od {p:Ed->Bool} {xs:List Ed} (h:xs.any p=false):E4 p xs = -1:=by
 have:xs.findIdx? p=none:=by
  rw[List.findIdx?_eq_none_iff];intro x hx;rw[List.any_eq_false]at h;simpa using h x hx
 simp[E4,this]
theorem KE {p:Ed->Bool} {xs:List Ed} {k:Nat} {x:Ed} (hx:xs[k]?=some x) (hp:p x=true) (h:(xs.take k).any p=false):E4 p xs=k:=by
 have:xs.findIdx? p=some k:=by
  obtain⟨hk,rfl⟩:=Zbs.1 hx;rw[Zcf];refine⟨hk,hp,fun j hj=>?_⟩
  rw[List.any_eq_false]at h
  have:=h xs[j] (List.mem_take_iff_getElem.2 ⟨j,zO,rfl⟩)
  simpa using this
 simp[E4,this]
theorem RB (p:Ed->Bool) (xs:List Ed):decide (0<=E4 p xs)=xs.any p:=by
 unfold E4
 cases h:xs.findIdx? p with
 | none=>
  rw[List.findIdx?_eq_none_iff]at h
  have:xs.any p=false:=by rw[List.any_eq_false];intro x hx;simp[h x hx]
  rw[this];rfl
 | some i=>
  rw[Zcf]at h;obtain⟨hi,hp,-⟩:=h
  have:xs.any p=true:=Zcg.2 ⟨_,Zbj hi,hp⟩
  rw[this];simp
theorem Oe {p:Ed->Bool} {xs:List Ed} {k:Nat} {x:Ed} (hx:xs[k]?=some x) (h:(xs.take k).any p=false) (hp:p x=false):(xs.take (k+1)).any p=false:=by
 rw[bJ hx,List.any_append,h];simp[hp]
theorem AA (v:Value) (xs:List Ed) (nQ:FuncId) (jX:Array Value) (p:Ed->Bool) (w:World) (h:Rz w v xs) (i9:∀args w,(callFunc nQ args).run Tryz.prog w=.ok (.enter nQ args) w) (hp:Yc w nQ jX p xs):
  Calls Tryz.prog 151 #[v,.func (.func nQ) #[] jX] w fun e w'=>e=.returned (.int .i64 (E4 p xs))/\Below w.heap.size w w':=by
 have H:=zh h;obtain⟨A,c,rfl,hm,fR,hA⟩:=h;unfold maxLen at hm;have HA:=zh hA;clear hA;have Hp:=zh hp;have eg:=i9;clear hp
 go_enter Tryz.func151,Tryz.ntmps151
 go_wp2
 go_loopw [8] (fun i wr=>∃k:Nat,k<=xs.length/\i=.int .i64 k/\(xs.take k).any p=false/\ab w wr) (fun i _=>xs.length-(intOf i).toNat)
 case atStart=>exact⟨0,Zac _,rfl,rfl,aa _⟩
 case round=>
  obtain⟨k,hk,rfl,jQ,hb⟩:=hrel;obtain⟨qV,Hb⟩:=A_ jQ hb;clear jQ hb
  by_cases aA:k<xs.length
  ·obtain⟨x,hx⟩:=au xs k aA;obtain⟨b,rfl,xL,dk,jT,pC⟩:=HA k x hx;have d0:=Hb.cell xL;have d1:=Hb.cell dk;have d2:=Hb.cell jT;have d3:=Hb.cell pC;have Hx:=zh hx;clear hx xL dk jT pC;obtain⟨y,hy⟩:=J_ (p x)
   have Hy:=zh hy;have kZ:=Hp x (Zaq Hx) _ Hb;rw[<- hy]at kZ;have gD:=zh kZ;clear hy kZ;go_wp2_with fail;refine gD.mono ?_;rintro e w1 ⟨rfl,aP⟩;have jR:=zh (Hb.out.trans aP);clear aP;cases y
   ·go_wp2;go_roundw
    exact⟨k+1,zO,zM,Oe Hx qV Hy.symm,jR⟩
    simp[intOf];omega
   ·have Hr:Hid (E4 p xs=k):=KE Hx Hy.symm qV;go_wp2;go_ret;exact⟨congrArg (fun i=>Ending.returned (.int .i64 i)) Hr.out.symm,jR.out⟩
  ·obtain rfl:k=xs.length:=zO
   have Hr:Hid (E4 p xs = -1):=Od (by have:=qV.out;rwa [Zbq]at this)
   go_wp2;go_ret;exact⟨congrArg (fun i=>Ending.returned (.int .i64 i)) Hr.out.symm,Hb.out⟩
theorem vf (v:Value) (xs:List Ed) (nQ:FuncId) (jX:Array Value) (p:Ed->Bool) (w:World) (h:Rz w v xs) (i9:∀args w,(callFunc nQ args).run Tryz.prog w=.ok (.enter nQ args) w) (hp:Yc w nQ jX p xs):
  Calls Tryz.prog 106 #[v,.func (.func nQ) #[] jX] w fun e w'=>e=.returned (.bool (xs.any p))/\Below w.heap.size w w':=by
 obtain⟨hi,He⟩:=A_ (AA v xs nQ jX p w h i9 hp) (RB p xs);obtain⟨A,c,rfl,hm,fR,hA⟩:=h
 go_enter Tryz.func106,Tryz.ntmps106
 go_wp2_with fail;refine hi.mono ?_;rintro e w1 ⟨rfl,hb⟩;have Hb:=zh hb;clear hb;go_wp2;go_ret;exact⟨congrArg (fun b=>Ending.returned (.bool b)) He.out,Hb.out⟩
def k_ (v i:Nat) (e:Int×Int):Bool:=decide ((v:Int)<e.1)||(((v:Int)==e.1)&&decide ((i:Int)<=e.2))
def vg (v i:Nat) (e:Int×Int):List Ed:=if k_ v i e then [((v:Int),(i:Int),e.1,e.2)] else []
def qJ (v:Nat) (es:List (Int×Int)) (i:Nat):List Ed:=(List.range i).flatMap fun j=>vg v j (es.getD j (0,0))
def dW (n:ao) (u:Nat):List (Int×Int):=n.ends.getD u []
def fC (n:ao) (v:Nat):List Ed:=(List.range v).flatMap fun u=>qJ u (dW n u) (dW n u).length
def et (n:ao):List Ed:=fC n n.ends.length
theorem DK (v:Nat) (es:List (Int×Int)) (i:Nat):qJ v es (i+1)=qJ v es i++vg v i (es.getD i (0,0)):=by
 unfold qJ;rw[Zaa,List.flatMap_append];simp
theorem vh (n:ao) (v:Nat):fC n (v+1)=fC n v++qJ v (dW n v) (dW n v).length:=by
 unfold fC;rw[Zaa,List.flatMap_append];simp
theorem G5 (v:Nat) (es:List (Int×Int)) (i:Nat):(qJ v es i).length<=i:=by
 induction i with
 | zero=>simp[qJ]
 | succ i ih=>
  rw[DK,Zay]
  have:(vg v i (es.getD i (0,0))).length<=1:=by unfold vg;split <;> simp
  omega
theorem xM {n:ao} (hn:ar n=true) (v:Nat):(fC n v).length<=6*v:=by
 induction v with
 | zero=>simp[fC]
 | succ v ih=>
  rw[vh,Zay];have h1:=G5 v (dW n v) (dW n v).length
  have h2:(dW n v).length<=6:=by
   unfold dW;rw[zDd]
   cases h:n.ends[v]? with
   | none=>simp
   | some es=>exact(fO hn h).1
  omega
theorem Of {n:ao} {e:Ed}:e∈et n↔∃v i,v<n.ends.length/\i<(dW n v).length/\k_ v i ((dW n v).getD i (0,0))=true/\e=((v:Int),(i:Int),((dW n v).getD i (0,0)).1,((dW n v).getD i (0,0)).2):=by
 unfold et fC qJ
 simp only[List.mem_flatMap,Zab];constructor
 ·rintro⟨v,hv,i,hi,he⟩;unfold vg at he
  split at he
  ·rename_i hk
   exact⟨v,i,hv,hi,hk,by simpa using he⟩
  ·simp at he
 ·rintro⟨v,i,hv,hi,hk,rfl⟩
  exact⟨v,hv,i,hi,by unfold vg;rw[if_pos hk];simp⟩
theorem Og (ve vi vn:Value) (n:ao) (w:World) (h:aR w ve vi vn n) (hn:ar n=true):
  Calls Tryz.prog 105 #[.agg #[ve,vi,vn]] w fun e w'=>∃u,e=.returned u/\sW w' w.heap.size u (et n)/\Below w.heap.size w w':=by
 have iX:=(bK hn).2
 obtain⟨w0,A,c,A2,c2,A3,c3,rfl,rfl,rfl,fR,hm,gC,jz,HA,H,cD,aY,fp,fE,fM⟩:=zB h;clear h
 have Hn:=zh hn;have aK:ab w0 w0:=aa _;clear hn
 go_enter Tryz.func105,Tryz.ntmps105
 go_upto_region 1 with(fail);rw[<- cD.out];go_wp2
 go_loopw [3,11] (fun u i wr=>∃k:Nat,k<=n.ends.length/\i=.int .i64 k/\sW wr w0.heap.size u (fC n k)/\ab w0 wr) (fun _ i _=>n.ends.length-(intOf i).toNat)
 case atStart=>exact⟨0,Zac _,rfl,by simpa[fC]using Ry _ w0.heap.size,aK⟩
 case round=>
  obtain⟨k,hk,rfl,ho,hs⟩:=hrel;obtain⟨Ho,Hs⟩:=A_ ho hs;clear aK ho hs
  by_cases aA:k<n.ends.length
  ·obtain⟨es,aU⟩:=au n.ends k aA;obtain⟨E3,-⟩:=fO Hn aU
   have dT:Hid (dW n k=es):=by show _=_;rw[dW,zDd,aU];rfl
   obtain⟨b,CV,cr,ur,ja,Kv,dk,aG⟩:=iK H.es aU;cases ja;obtain⟨A1,z1,rfl,dP,dY,ja⟩:=aG;unfold maxLen at dY;have JT:=zh ja;have r1:=al (ae dk) Hs;have q5:=r1 wr (aa _);have q0:=fp wr Hs;have gM:=xM Hn k;have Nv:=zh gM;clear aU dk ja gM;go_wp2
   go_loopw [3,18] (fun u i wr=>∃j:Nat,j<=es.length/\i=.int .i64 j/\sW wr w0.heap.size u (fC n k++qJ k es j)/\ab w0 wr) (fun _ i _=>es.length-(intOf i).toNat)
   case atStart=>exact⟨0,Zac _,rfl,by simpa[qJ]using Ho.out,Hs.out⟩
   case round=>
    obtain⟨j,hj,rfl,ho,hs⟩:=hrel;obtain⟨mg,eU⟩:=A_ ho hs;clear ho hs
    by_cases xK:j<es.length
    ·obtain⟨⟨x1,x2⟩,hx⟩:=au es j xK;obtain⟨b1,CH,rfl,qD,jL⟩:=JT j _ hx;have t1:=ae qD wr eU;have t2:=ae jL wr eU;have kw:Hid (es.getD j (0,0)=(x1,x2)):=ag hx;obtain⟨w8,lz⟩:=J_ (wr.alloc (.cells #[.int .i64 x1,.int .i64 x2] 104))
     obtain⟨be,lV⟩:=J_ wr.heap.size
     have d0:∀W,ab w8 W->W.cell? ⟨be,0,none⟩=some (.int .i64 x1):=ae (by rw[lz,lV];simp)
     have d1:∀W,ab w8 W->W.cell? ⟨be,1,none⟩=some (.int .i64 x2):=ae (by rw[lz,lV];simp)
     have vT:Hid (sW w8 w0.heap.size u3 (fC n k++qJ k es j)):=by rw[lz];exact mg.agU (ad _ (aa _))
     have j6:Hid (ab w0 w8):=by rw[lz];exact ad _ eU
     obtain⟨KF,Hbe⟩:=A_ lz lV;have m3:=zw j;clear hx qD jL lz lV;go_upto_region 8 with(fail);rw[<- KF.out,<- Hbe.out];clear t1 t2;refine aM 16 (ab w8) (aa _) ?_;simp only[zT]
     iterate 5 (refine ch rfl ?_;simp only[zA])
     iterate 5 (refine iT rfl rfl ?_;simp only[zA])
     iterate 4 (apply iI rfl rfl;(intro hb aS;intro W hW;go_simp;with_reducible rfl);simp only[zA])
     refine oJ rfl rfl rfl ?_;simp only[zA]
     (first | refine db rfl rfl ?_ | (refine ch rfl ?_));simp only[zA]
     intro W hW;obtain⟨RC,RD⟩:=A_ (j6.out.after hW) (vT.out.agU hW);have c0:=d0 W hW;have c1:=d1 W hW
     have jb:Hid ((fC n k++qJ k es j).length+1<=1000000):=by
      have h1:=Nv.out;have h2:=G5 k es j;show _<=_
      rw[Zay];omega
     have si:Hid (fC n k++qJ k es (j+1)=(fC n k++qJ k es j)++vg k j (x1,x2)):=by show _=_;rw[DK,kw.out,List.append_assoc]
     cases hg:(decide ((k:Int)<x1)||((k:Int)==x1&&decide ((j:Int)<=x2)))
     ·have qo:Hid (vg k j (x1,x2)=[]):=by show _=_;unfold vg;rw[if_neg];rw[show k_ k j (x1,x2)=false from hg];simp
      clear hg hW d0 d1 c0 c1;go_wp2;go_roundw
      exact⟨j+1,zO,zM,by rw[si.out,qo.out,List.append_nil];exact RD,RC⟩
      simp[intOf];omega
     ·have ZR:Hid (vg k j (x1,x2)=[((k:Int),(j:Int),x1,x2)]):=by show _=_;unfold vg;rw[if_pos (show k_ k j (x1,x2)=true from hg)]
      clear hg hW d0 d1
      go_wp2_with (at_builtin;refine RA rfl _ _ rfl rfl (RD.agU (ad _ (aa _))) W.heap.size ((k:Int),(j:Int),x1,x2) rfl (by simp[go_sem]) (by simp[go_sem]) (by simp[go_sem]) (by simp[go_sem]) jb (ad _ RC) ?_;intro g9 c9 w9 gj Oh)
      obtain⟨yK,yL⟩:=A_ gj Oh;clear gj Oh c0 c1;go_wp2;go_roundw
      exact⟨j+1,zO,zM,by rw[si.out,ZR.out];have:=yK.out;first | exact this | (rw[Zay]at this;exact this),yL⟩
      simp[intOf];omega
    ·obtain rfl:j=es.length:=zO
     have si:Hid (fC n (k+1)=fC n k++qJ k es es.length):=by show _=_;rw[vh,dT.out]
     have m3:=zw k;go_wp2;go_roundw
     exact⟨k+1,zO,zM,by rw[si.out];exact mg,eU⟩
     simp[intOf];omega
  ·obtain rfl:k=n.ends.length:=zO
   go_wp2;go_ret;exact⟨_,rfl,Ho.mono aY.size,ab.after aY Hs⟩
inductive lA (E:List (Nat×Nat)) (a:Nat):Nat->Prop
 | refl:lA E a a
 | step {b c:Nat}:lA E a b->((b,c)∈E\/(c,b)∈E)->lA E a c
theorem lA.trans {E:List (Nat×Nat)} {a b c:Nat} (h:lA E a b) (k:lA E b c):lA E a c:=by
 induction k with
 | refl=>exact h
 | step _ hs ih=>exact ih.step hs
theorem lA.one {E:List (Nat×Nat)} {a b:Nat} (h:(a,b)∈E\/(b,a)∈E):lA E a b:=lA.refl.step h
theorem lA.symm {E:List (Nat×Nat)} {a b:Nat} (h:lA E a b):lA E b a:=by
 induction h with
 | refl=>exact .refl
 | step _ hs ih=>exact(lA.one hs.symm).trans ih
theorem lA.sub {E F:List (Nat×Nat)} (hs:∀e∈E,e∈F) {a b:Nat} (h:lA E a b):lA F a b:=by
 induction h with
 | refl=>exact .refl
 | step _ k ih=>exact ih.step (k.imp (hs _) (hs _))
theorem lA.ag8 {E:List (Nat×Nat)} {x y a b:Nat}:lA ((a,b)::E) x y↔lA E x y\/(lA E x a/\lA E b y)\/(lA E x b/\lA E a y):=by
 constructor
 ·intro h
  induction h with
  | refl=>exact .inl .refl
  | @step u v _ k ih=>
   have k':(u=a/\v=b)\/(u=b/\v=a)\/((u,v)∈E\/(v,u)∈E):=by
    rcases k with k | k
    ·rcases Zbe.1 k with e | k
     ·cases e;exact .inl ⟨rfl,rfl⟩
     ·exact .inr (.inr (.inl k))
    ·rcases Zbe.1 k with e | k
     ·cases e;exact .inr (.inl ⟨rfl,rfl⟩)
     ·exact .inr (.inr (.inr k))
   rcases k' with⟨rfl,rfl⟩ | ⟨rfl,rfl⟩ | k'
   ·rcases ih with ih | ⟨i1,i2⟩ | ⟨i1,i2⟩
    ·exact .inr (.inl ⟨ih,.refl⟩)
    ·exact .inr (.inl ⟨i1,.refl⟩)
    ·exact .inl i1
   ·rcases ih with ih | ⟨i1,i2⟩ | ⟨i1,i2⟩
    ·exact .inr (.inr ⟨ih,.refl⟩)
    ·exact .inl i1
    ·exact .inr (.inr ⟨i1,.refl⟩)
   ·rcases ih with ih | ⟨i1,i2⟩ | ⟨i1,i2⟩
    ·exact .inl (ih.step k')
    ·exact .inr (.inl ⟨i1,i2.step k'⟩)
    ·exact .inr (.inr ⟨i1,i2.step k'⟩)
 ·have s:∀ {u v},lA E u v->lA ((a,b)::E) u v:=fun h=>h.sub fun e he=>Zbd _ he
  have e:lA ((a,b)::E) a b:=lA.one (.inl zS)
  rintro(h | ⟨h1,h2⟩ | ⟨h1,h2⟩)
  ·exact s h
  ·exact(s h1).trans (e.trans (s h2))
  ·exact(s h1).trans (e.symm.trans (s h2))
def tn (E:List (Nat×Nat)) (v:Nat):Prop:=∀u,lA E v u->v<=u
theorem DL (E:List (Nat×Nat)):∀(k a:Nat),a<=k->∃m,lA E a m/\tn E m:=by
 intro k
 induction k with
 | zero=>intro a ha;exact⟨a,.refl,fun u _=>zO⟩
 | succ k ih=>
  intro a ha
  by_cases h:tn E a
  ·exact⟨a,.refl,h⟩
  ·unfold tn at h
   have ⟨u,hu⟩:=Classical.not_forall.1 h
   have ⟨h1,h2⟩:=Classical.not_imp.1 hu
   obtain⟨m,g1,g2⟩:=ih u zO;exact⟨m,h1.trans g1,g2⟩
theorem tn.eq {E:List (Nat×Nat)} {a b:Nat} (ha:tn E a) (hb:tn E b) (h:lA E a b):a=b:=Nat.le_antisymm (ha b h) (hb a h.symm)
open Classical in
noncomputable def lc (E:List (Nat×Nat)) (n:Nat):Nat:=(List.range n).countP fun v=>decide (tn E v)
def KG (E:List (Nat×Nat)) (n:Nat):Prop:=∀e∈E,e.1<n/\e.2<n
theorem Oi {n m:Nat} (P Q:Nat->Bool) (hm:m<n) (hq:Q m=true) (h:∀v,v<n->P v=(Q v&&v != m)):(List.range n).countP P+1=(List.range n).countP Q:=by
 induction n with
 | zero=>omega
 | succ n ih=>
  rw[Zaa,List.countP_append,List.countP_append]
  by_cases he:m=n
  ·subst he
   have e1:(List.range m).countP P=(List.range m).countP Q:=by
    apply List.countP_congr
    intro v hv;have hv':=Zab.1 hv;rw[h v zO]
    simp;omega
   have e2:P m=false:=by rw[h m zO];simp
   rw[e1];simp[e2,hq]
  ·have i:=ih zO (fun v hv=>h v zO)
   have e2:P n=Q n:=by rw[h n zO];simp;omega
   rw[<- i];simp[e2]
   omega
open Classical in
theorem AB {E:List (Nat×Nat)} {n a b:Nat} (h:lA E a b):lc ((a,b)::E) n=lc E n:=by
 unfold lc;apply List.countP_congr
 intro v _
 have:∀u,lA ((a,b)::E) v u↔lA E v u:=by
  intro u;rw[lA.ag8]
  exact⟨fun k=>by
   rcases k with k | ⟨k1,k2⟩ | ⟨k1,k2⟩
   ·exact k
   ·exact(k1.trans h).trans k2
   ·exact(k1.trans h.symm).trans k2,.inl⟩
 rw[decide_eq_true_eq,decide_eq_true_eq];exact forall_congr' fun u=>by rw[this]
open Classical in
theorem AD {E:List (Nat×Nat)} {n a b:Nat} (h:¬lA E a b) (ha:a<n) (hb:b<n):lc ((a,b)::E) n+1=lc E n:=by
 obtain⟨la,a1,a2⟩:=DL E a a (Zaj _);obtain⟨lb,b1,b2⟩:=DL E b b (Zaj _);have CZ:la<=a:=a2 a a1.symm;have eK:lb<=b:=b2 b b1.symm
 have jh:la≠lb:=fun e=>h (a1.trans (by rw[e];exact b1.symm))
 unfold lc;refine Oi (m:=max la lb) _ _ zO ?_ ?_
 ·rcases Nat.le_total la lb with k | k
  ·rw[Nat.max_eq_right k];simpa using b2
  ·rw[Nat.max_eq_left k];simpa using a2
 ·intro v _;rw[Zbl];simp only[decide_eq_true_eq,Zai,bne_iff_ne,ne_eq];have hj:lA ((a,b)::E) la lb:=lA.ag8.2 (.inr (.inl ⟨a1.symm,b1⟩));constructor
  ·intro hv;refine⟨fun u hu=>hv u (lA.ag8.2 (.inl hu)),fun e=>?_⟩
   rcases Nat.le_total la lb with k | k
   ·rw[Nat.max_eq_right k]at e;subst e;have:=hv la hj.symm;omega
   ·rw[Nat.max_eq_left k]at e;subst e;have:=hv lb hj;omega
  ·rintro⟨hv,hm⟩ u hu;rcases lA.ag8.1 hu with k | ⟨k1,k2⟩ | ⟨k1,k2⟩
   ·exact hv u k
   ·have e:=tn.eq hv a2 (k1.trans a1)
    have:=b2 u (b1.symm.trans k2)
    omega
   ·have e:=tn.eq hv b2 (k1.trans b1)
    have:=a2 u (a1.symm.trans k2)
    omega
open Classical in
theorem DM (n:Nat):lc [] n=n:=by
 unfold lc;rw[List.countP_eq_length.2]
 ·simp
 ·intro v _
  have:tn [] v:=by
   intro u hu
   have:∀ {x y},lA [] x y->x=y:=by
    intro x y h
    induction h with
    | refl=>rfl
    | step _ k _=>simp at k
   rw[this hu];exact Zaj _
  simpa using this
theorem RE {E:List (Nat×Nat)} {n:Nat} (h:KG E n):n<=lc E n+E.length:=by
 induction E with
 | nil=>rw[DM];simp
 | cons e E ih=>
  obtain⟨a,b⟩:=e;have i:=ih fun e he=>h e (Zbd _ he)
  have oe:=h (a,b) zS
  by_cases hc:lA E a b
  ·rw[AB hc];simp;omega
  ·have:=AD hc oe.1 oe.2
   simp;omega
open Classical in
theorem KH {E F:List (Nat×Nat)} {n:Nat} (h:∀e,e∈E↔e∈F):lc E n=lc F n:=by
 unfold lc;apply List.countP_congr
 intro v _
 have:∀u,lA E v u↔lA F v u:=fun u=>⟨lA.sub fun e=>(h e).1,lA.sub fun e=>(h e).2⟩
 rw[decide_eq_true_eq,decide_eq_true_eq];exact forall_congr' fun u=>by rw[this]
theorem tp {α:Type} {E:List α} {i:Nat} {e:α} (h:E[i]?=some e) (x:α):x∈E↔x∈e::E.eraseIdx i:=by
 obtain⟨hl,rfl⟩:=Zbs.1 h;rw[List.eraseIdx_eq_take_drop_succ];have e:E=E.take i++E[i]::E.drop (i+1):=by rw[<- Zbt hl,List.take_append_drop]
 have e2:x∈E↔x∈E.take i++E[i]::E.drop (i+1):=by rw[<- e]
 rw[e2];simp only[Zar,Zbe];constructor
 ·rintro(k | k | k)
  ·exact .inr (.inl k)
  ·exact .inl k
  ·exact .inr (.inr k)
 ·rintro(k | k | k)
  ·exact .inr (.inl k)
  ·exact .inl k
  ·exact .inr (.inr k)
theorem KI {E:List (Nat×Nat)} {n:Nat} (h:KG E n):lc E n+E.length=n↔∀(i:Nat) (e:Nat×Nat),E[i]?=some e->¬lA (E.eraseIdx i) e.1 e.2:=by
 constructor
 ·intro hn i e he hc;obtain⟨hl,_⟩:=Zbs.1 he;have e1:lc E n=lc (e::E.eraseIdx i) n:=KH (tp he);have e2:=AB (n:=n) hc;have e3:=RE (E:=E.eraseIdx i) (n:=n) fun x hx=>h x (List.mem_of_mem_eraseIdx hx)
  rw[List.length_eraseIdx_of_lt hl]at e3;rw[show(e.1,e.2)=e from rfl]at e2;omega
 ·intro hb
  induction E with
  | nil=>rw[DM];simp
  | cons e E ih=>
   obtain⟨a,b⟩:=e;have oe:=h (a,b) zS;have h0:=hb 0 (a,b) rfl;simp only[List.eraseIdx_cons_zero]at h0
   have i:=ih (fun e he=>h e (Zbd _ he)) fun i e he hc=>hb (i+1) e (by simpa using he) (hc.sub fun x hx=>by rw[List.eraseIdx_cons_succ];exact Zbd _ hx)
   have:=AD h0 oe.1 oe.2
   simp;omega
def RF (n:ao):List (Nat×Nat):=(et n).map fun e=>(e.1.toNat,e.2.2.1.toNat)
def bA (n:ao) (v i:Nat) (f:Int×Int):Prop:=(n.ends.getD v [])[i]?=some f
theorem dZ {n:ao} (hn:ar n=true) {v i:Nat} {f:Int×Int} (h:bA n v i f):v<n.ends.length/\0<=f.1/\f.1<n.ends.length/\0<=f.2/\bA n f.1.toNat f.2.toNat ((v:Int),(i:Int)):=by
 have hv:v<n.ends.length:=by
  rcases Zbi v n.ends.length with h1 | h1
  ·exact h1
  ·unfold bA at h;rw[zDd,Zce h1]at h;simp at h
 have hi:=ah h
 have hp:bg n.ends (v:Int) (i:Int)=true:=by
  unfold bg;rw[Zai,aB,aB];simp only[Zag];omega
 have he:iJ n.ends (v:Int) (i:Int)=f:=by
  unfold iJ;simp only[Zag];exact ag h
 obtain⟨h1,h2⟩:=wy hn hp;rw[he]at h1 h2;unfold bg at h1;rw[Zai,aB,aB]at h1;refine⟨hv,h1.1.1,zO,h1.2.1,?_⟩
 have hl:f.2.toNat<(n.ends.getD f.1.toNat []).length:=zO
 obtain⟨y,hy⟩:=au _ _ hl;unfold iJ at h2;rw[ag hy]at h2;unfold bA;rw[hy,h2]
theorem j7 {n:ao} {a b:Nat}:(b:Int)∈jq n (a:Int)↔∃(i:Nat) (f:Int×Int),bA n a i f/\f.1=(b:Int):=by
 rw[EY];constructor
 ·rintro⟨j,q,h⟩;exact⟨j,_,h,rfl⟩
 ·rintro⟨i,f,h,e⟩;exact⟨i,f.2,by rw[<- e];exact h⟩
theorem d_ {n:ao} {e:Ed}:e∈et n↔∃(v i:Nat) (f:Int×Int),v<n.ends.length/\bA n v i f/\k_ v i f=true/\e=((v:Int),(i:Int),f.1,f.2):=by
 rw[Of];constructor
 ·rintro⟨v,i,hv,hi,hk,rfl⟩;obtain⟨f,hf⟩:=au _ _ hi;rw[ag hf]at hk ⊢;exact⟨v,i,f,hv,hf,hk,rfl⟩
 ·rintro⟨v,i,f,hv,hp,hk,rfl⟩;have hp':(dW n v)[i]?=some f:=hp;refine⟨v,i,hv,ah hp',?_,?_⟩
  ·rw[ag hp'];exact hk
  ·rw[ag hp']
theorem Mu {v i:Nat} {f:Int×Int} (h1:0<=f.1) (h2:0<=f.2) (h:k_ v i f=false):k_ f.1.toNat f.2.toNat ((v:Int),(i:Int))=true/\k_ v i f=false:=by
 refine⟨?_,h⟩
 unfold k_ at h ⊢
 simp only[Zbn,Zah,decide_eq_false_iff_not,beq_eq_false_iff_ne,ne_eq]at h;simp only[Zbp,Zai,decide_eq_true_eq,beq_iff_eq];rw[Zcl h1,Zcl h2];omega
theorem Oj {v i:Nat} {f:Int×Int} (h1:0<=f.1) (h2:0<=f.2) (h:k_ v i f=true) (h':k_ f.1.toNat f.2.toNat ((v:Int),(i:Int))=true):f=((v:Int),(i:Int)):=by
 unfold k_ at h h';simp only[Zbp,Zai,decide_eq_true_eq,beq_iff_eq]at h h';rw[Zcl h1,Zcl h2]at h';obtain⟨a,b⟩:=f;simp only at h h' h1 h2
 rw[Prod.mk.injEq];omega
theorem RG {n:ao} (hn:ar n=true) {F:List Ed} (agU:Nat->Nat->Bool) (hF:∀e,e∈F↔e∈et n/\agU e.1.toNat e.2.1.toNat=true)
  (hk:∀v i f,bA n v i f->agU v i=agU f.1.toNat f.2.toNat) {a b:Nat} (R:Nat->Nat->Prop) (ab0:∀a,R a a) (eF:∀ {a b c:Nat},R a b->(∃i f,bA n b i f/\agU b i=true/\f.1=(c:Int))->R a c)
  (aeh:∀ {a b:Nat},R a b->∀(M:Nat->Prop),M a->(∀b c:Nat,M b->(∃i f,bA n b i f/\agU b i=true/\f.1=(c:Int))->M c)->M b):
  lA (F.map fun e=>(e.1.toNat,e.2.2.1.toNat)) a b↔R a b:=by
 have one:∀ {x y:Nat},(x,y)∈(F.map fun e=>(e.1.toNat,e.2.2.1.toNat))↔∃i f,bA n x i f/\agU x i=true/\f.1=(y:Int)/\k_ x i f=true:=by
  intro x y;rw[List.mem_map];constructor
  ·rintro⟨e,he,uN⟩;obtain⟨h1,h2⟩:=(hF e).1 he;obtain⟨v,i,f,hv,hp,G6,rfl⟩:=d_.1 h1;simp only[Zag,Prod.mk.injEq]at uN h2;obtain⟨rfl,rfl⟩:=uN;exact⟨i,f,hp,h2,(Zcl (dZ hn hp).2.1).symm,G6⟩
  ·rintro⟨i,f,hp,h2,hf,G6⟩;refine⟨((x:Int),(i:Int),f.1,f.2),(hF _).2 ⟨d_.2 ⟨x,i,f,(dZ hn hp).1,hp,G6,rfl⟩,by simpa using h2⟩,?_⟩
   simp[hf]
 constructor
 ·intro h
  induction h with
  | refl=>exact ab0 _
  | @step b c _ hs ih=>
   refine eF ih ?_;rcases hs with hs | hs
   ·obtain⟨i,f,h1,h2,h3,_⟩:=one.1 hs;exact⟨i,f,h1,h2,h3⟩
   ·obtain⟨i,f,h1,h2,h3,_⟩:=one.1 hs;obtain⟨g1,g2,g3,g4,g5⟩:=dZ hn h1;rw[h3,Zag]at g5;refine⟨f.2.toNat,_,g5,?_,rfl⟩
    have:=hk _ _ _ h1
    rw[h3,Zag]at this
    rw[<- this];exact h2
 ·intro h;refine aeh h (fun z=>lA _ a z) .refl ?_
  rintro x y hx ⟨i,f,h1,h2,h3⟩;refine hx.step ?_
  by_cases G6:k_ x i f=true
  ·exact .inl (one.2 ⟨i,f,h1,h2,h3,G6⟩)
  ·obtain⟨g1,g2,g3,g4,g5⟩:=dZ hn h1;have RH:=(Mu g2 g4 (by simpa using G6)).1;have G7:=hk _ _ _ h1;rw[h3,Zag]at g5 RH G7
   exact .inr (one.2 ⟨f.2.toNat,_,g5,by rw[<- G7];exact h2,rfl,RH⟩)
theorem Mv {n:ao} (hn:ar n=true) {a b:Nat}:lA (RF n) a b↔jU n a b:=by
 refine RG hn (F:=et n) (fun _ _=>true) zS zS (jU n) (fun _=>.refl) ?_ ?_
 ·rintro a b c h ⟨i,f,h1,_,h3⟩;exact h.step (j7.2 ⟨i,f,h1,h3⟩)
 ·intro a b h M h0 hM
  induction h with
  | refl=>exact h0
  | step _ hs ih=>
   obtain⟨i,f,h1,h3⟩:=j7.1 hs;exact hM _ _ ih ⟨i,f,h1,rfl,h3⟩
theorem KJ {n:ao} (hn:ar n=true):KG (RF n) n.ends.length:=by
 intro e he;obtain⟨x,hx,rfl⟩:=List.mem_map.1 he;obtain⟨v,i,f,hv,hp,_,rfl⟩:=d_.1 hx
 have:=dZ hn hp
 simp only[Zag];omega
def kE (n:ao) (k:Nat):Nat:=(List.range k).countP fun v=>aH n v==v
open Classical in
theorem G8 {n:ao} (hn:ar n=true):kE n n.ends.length=lc (RF n) n.ends.length:=by
 unfold kE lc
 apply List.countP_congr
 intro v hv;have hv':=Zab.1 hv;rw[decide_eq_true_eq];obtain⟨l1,l2,l3⟩:=dB hn hv';constructor
 ·intro h u hu
  have:=l3 u ((Mv hn).1 hu)
  simp only[beq_iff_eq]at h;omega
 ·intro h;have h1:=h _ ((Mv hn).2 l1);have h2:=GS hn hv';simp only[beq_iff_eq];omega
theorem G9 (n:ao):(et n).Nodup:=by
 unfold et fC
 unfold List.Nodup;rw[List.pairwise_flatMap]
 have one:∀v es k e,e∈qJ v es k->e.1=(v:Int):=by
  intro v es k e he;unfold qJ at he;obtain⟨j,_,hj⟩:=List.mem_flatMap.1 he;unfold vg at hj
  split at hj
  ·rw[Zbm.1 hj]
  ·simp at hj
 constructor
 ·intro v _;unfold qJ;rw[List.pairwise_flatMap];constructor
  ·intro j _;unfold vg
   split <;> simp
  ·refine List.Pairwise.imp ?_ (List.pairwise_lt_range (n:=(dW n v).length));intro i j PP x hx y hy e;subst e;unfold vg at hx hy
   split at hx
   ·split at hy
    ·have a:=Zbm.1 hx;have b:=Zbm.1 hy;rw[a]at b;simp only[Prod.mk.injEq]at b;omega
    ·simp at hy
   ·simp at hx
 ·refine List.Pairwise.imp ?_ (List.pairwise_lt_range (n:=n.ends.length));intro u v huv x hx y hy e;subst e;have a:=one _ _ _ _ hx;have b:=one _ _ _ _ hy;omega
def js (agU:Nat->Nat->Bool) (v k:Nat):Nat:=((List.range k).filter (agU v)).length
def fW (n:ao) (agU:Nat->Nat->Bool) (v k:Nat):List (Int×Int):=((List.range k).filter (agU v)).map fun i=>(((dW n v).getD i (0,0)).1,((js agU ((dW n v).getD i (0,0)).1.toNat ((dW n v).getD i (0,0)).2.toNat:Nat):Int))
def kF (n:ao) (agU:Nat->Nat->Bool) (v:Nat):List (Int×Int):=fW n agU v (dW n v).length
def jt (n:ao) (agU:Nat->Nat->Bool):ao:={ n with ends:=(List.range n.ends.length).map (kF n agU) }
theorem ss (agU:Nat->Nat->Bool) (v k:Nat):js agU v (k+1)=js agU v k+(if agU v k then 1 else 0):=by
 unfold js;rw[Zaa,List.filter_append,Zay]
 cases h:agU v k <;> simp[h]
theorem pR (n:ao) (agU:Nat->Nat->Bool) (v k:Nat):fW n agU v (k+1)=fW n agU v k++(if agU v k then [(((dW n v).getD k (0,0)).1,((js agU ((dW n v).getD k (0,0)).1.toNat ((dW n v).getD k (0,0)).2.toNat:Nat):Int))] else []):=by
 unfold fW;rw[Zaa,List.filter_append,List.map_append]
 cases h:agU v k <;> simp[h]
theorem jG (n:ao) (agU:Nat->Nat->Bool) (v k:Nat):(fW n agU v k).length=js agU v k:=by simp[fW,js]
theorem Ol (agU:Nat->Nat->Bool) (v:Nat) {j k:Nat} (h:j<=k):js agU v j<=js agU v k:=by
 induction k with
 | zero => obtain rfl : j = 0 := by omega
           exact Zaj _
 | succ k ih=>
  rcases Zbi k j with h1 | h1
  ·obtain rfl:j=k+1:=zO
   exact Zaj _
  ·rw[ss];have:=ih h1;omega
theorem V_ (agU:Nat->Nat->Bool) (v:Nat) {j k:Nat} (h:j<k) (hk:agU v j=true):js agU v j<js agU v k:=by
 have h1:=Ol agU v (j:=j+1) (k:=k) zO;rw[ss,hk]at h1;simp at h1
 omega
theorem E5 (agU:Nat->Nat->Bool) (v k:Nat):js agU v k<=k:=by
 unfold js
 have:=List.length_filter_le (agU v) (List.range k)
 simpa using this
theorem Om (n:ao) (agU:Nat->Nat->Bool) (v:Nat):∀(k j:Nat),j<k->agU v j=true->(fW n agU v k)[js agU v j]?=some (((dW n v).getD j (0,0)).1,((js agU ((dW n v).getD j (0,0)).1.toNat ((dW n v).getD j (0,0)).2.toNat:Nat):Int)):=by
 intro k
 induction k with
 | zero=>intro j hj;omega
 | succ k ih=>
  intro j hj hk;rw[pR];rcases Zbi j k with h | h
  ·rw[Zcb (by rw[jG];exact V_ agU v h hk)]
   exact ih j h hk
  ·obtain rfl:j=k:=zO
   rw[Zca (by rw[jG];exact Zaj _),jG,hk]
   simp
theorem KK (n:ao) (agU:Nat->Nat->Bool) (v:Nat):∀(k m:Nat) (f:Int×Int),(fW n agU v k)[m]?=some f->∃j,j<k/\agU v j=true/\m=js agU v j/\f=(((dW n v).getD j (0,0)).1,((js agU ((dW n v).getD j (0,0)).1.toNat ((dW n v).getD j (0,0)).2.toNat:Nat):Int)):=by
 intro k
 induction k with
 | zero=>intro m f h;simp[fW]at h
 | succ k ih=>
  intro m f h;rw[pR]at h;rcases Zbi m (fW n agU v k).length with hm | hm
  ·rw[Zcb hm]at h;obtain⟨j,a,b⟩:=ih m f h;exact⟨j,zO,b⟩
  ·rw[Zca hm]at h
   cases hk:agU v k with
   | false=>rw[hk]at h;simp at h
   | true=>
    rw[hk]at h;simp only[if_true]at h
    have:=ah h
    simp only[Zaz,List.length_nil]at this;rw[jG]at hm this;have vU:m-js agU v k=0:=zO
    rw[jG,vU]at h;simp only[List.getElem?_cons_zero,Option.some.injEq]at h;exact⟨k,zO,hk,zO,h.symm⟩
theorem yM (n:ao) (agU:Nat->Nat->Bool) {v:Nat} (hv:v<n.ends.length):(jt n agU).ends.getD v []=kF n agU v:=by
 rw[zDd];simp[jt,hv]
theorem pg {n:ao} (hn:ar n=true) (agU:Nat->Nat->Bool) {v m:Nat} {g:Int×Int}:bA (jt n agU) v m g↔∃j f,bA n v j f/\agU v j=true/\m=js agU v j/\g=(f.1,((js agU f.1.toNat f.2.toNat:Nat):Int)):=by
 constructor
 ·intro h
  have hv:v<n.ends.length:=by
   rcases Zbi v n.ends.length with h1 | h1
   ·exact h1
   ·unfold bA at h;have hl:(jt n agU).ends.length=n.ends.length:=by simp[jt]
    rw[zDd,Zce (l:=(jt n agU).ends) (by rw[hl];exact h1)]at h
    simp at h
  unfold bA at h;rw[yM n agU hv]at h;obtain⟨j,h1,h2,h3,h4⟩:=KK n agU v _ m g h;obtain⟨f,hf⟩:=au _ _ h1;rw[ag hf]at h4;exact⟨j,f,hf,h2,h3,h4⟩
 ·rintro⟨j,f,hp,hk,rfl,rfl⟩;have hv:=(dZ hn hp).1;have hp':(dW n v)[j]?=some f:=hp;unfold bA;rw[yM n agU hv]
  have:=Om n agU v (dW n v).length j (ah hp') hk
  rw[ag hp']at this;exact this
theorem AF {n:ao} (hn:ar n=true) (agU:Nat->Nat->Bool) (hk:∀v i f,bA n v i f->agU v i=agU f.1.toNat f.2.toNat):ar (jt n agU)=true:=by
 have hl:(jt n agU).ends.length=n.ends.length:=by simp[jt]
 have XV:=hn
 unfold ar at hn ⊢
 rw[hl];simp only[Zai]at hn ⊢
 refine⟨hn.1,?_⟩;rw[Zbh];intro v hv;have hv':=Zab.1 hv;have h0:=Zbh.1 hn.2 v hv
 unfold iy at h0 ⊢
 rw[yM n agU hv'];simp only[Zai,decide_eq_true_eq]at h0 ⊢
 constructor
 ·unfold kF;rw[jG]
  have:=E5 agU v (dW n v).length
  have h1:=h0.1
  unfold dW at this ⊢
  omega
 ·rw[Zbh];intro m hm;have hm':=Zab.1 hm;obtain⟨g,hg⟩:=au _ _ hm';rw[ag hg]
  have vj:bA (jt n agU) v m g:=by unfold bA;rw[yM n agU hv'];exact hg
  obtain⟨j,f,hp,hkj,rfl,rfl⟩:=(pg XV agU).1 vj;obtain⟨g1,g2,g3,g4,g5⟩:=dZ XV hp
  have hkf:agU f.1.toNat f.2.toNat=true:=by rw[<- hk v j f hp];exact hkj
  have tj:bA (jt n agU) f.1.toNat (js agU f.1.toNat f.2.toNat) ((v:Int),((js agU v j:Nat):Int)):=(pg XV agU).2 ⟨f.2.toNat,_,g5,hkf,rfl,zS⟩
  have aA:=ah tj
  unfold kz bg wg
  simp only[Zag,Zai,aB,decide_eq_true_eq];rw[hl];exact⟨⟨zO,zO⟩,ag tj⟩
theorem Wb {n:ao} (hn:ar n=true) (agU:Nat->Nat->Bool) (hk:∀v i f,bA n v i f->agU v i=agU f.1.toNat f.2.toNat) {F:List Ed} (hF:∀e,e∈F↔e∈et n/\agU e.1.toNat e.2.1.toNat=true) {a b:Nat}:
  lA (F.map fun e=>(e.1.toNat,e.2.2.1.toNat)) a b↔jU (jt n agU) a b:=by
 refine RG hn agU hF hk (jU (jt n agU)) (fun _=>.refl) ?_ ?_
 ·rintro a b c h ⟨i,f,h1,h2,h3⟩;exact h.step (j7.2 ⟨_,_,(pg hn agU).2 ⟨i,f,h1,h2,rfl,rfl⟩,h3⟩)
 ·intro a b h M h0 hM
  induction h with
  | refl=>exact h0
  | step _ hs ih=>
   obtain⟨m,g,h1,h3⟩:=j7.1 hs;obtain⟨i,f,k1,k2,k3,k4⟩:=(pg hn agU).1 h1;exact hM _ _ ih ⟨i,f,k1,k2,by rw[<- h3,k4]⟩
def gG (v i:Nat) (f:Int×Int) (x j:Nat):Bool:=!((x==v&&j==i)||(x==f.1.toNat&&j==f.2.toNat))
theorem ph {n:ao} (hn:ar n=true) {v i:Nat} {f:Int×Int} (hp:bA n v i f):∀x j g,bA n x j g->gG v i f x j=gG v i f g.1.toNat g.2.toNat:=by
 intro x j g hg;obtain⟨g1,g2,g3,g4,g5⟩:=dZ hn hg;obtain⟨f1,f2,f3,f4,f5⟩:=dZ hn hp
 have ab1:x=v->j=i->g=f:=by
  rintro rfl rfl;unfold bA at hg hp;rw[hg]at hp;exact Zbx hp
 have ab2:x=f.1.toNat->j=f.2.toNat->g=((v:Int),(i:Int)):=by
  rintro rfl rfl;unfold bA at hg f5;rw[hg]at f5;exact Zbx f5
 have ab3:g.1.toNat=v->g.2.toNat=i->x=f.1.toNat/\j=f.2.toNat:=by
  intro h1 h2;rw[h1,h2]at g5;unfold bA at g5 hp;rw[g5]at hp
  have:=Zbx hp
  rw[<- this];simp
 have ab4:g.1.toNat=f.1.toNat->g.2.toNat=f.2.toNat->x=v/\j=i:=by
  intro h1 h2;rw[h1,h2]at g5;unfold bA at g5 f5;rw[g5]at f5
  have:=Zbx f5
  simp only[Prod.mk.injEq]at this;omega
 unfold gG;congr 1
 rw[Zbl];simp only[Zbp,Zai,beq_iff_eq];constructor
 ·rintro(⟨h1,h2⟩ | ⟨h1,h2⟩)
  ·rw[ab1 h1 h2];exact .inr ⟨rfl,rfl⟩
  ·rw[ab2 h1 h2];exact .inl ⟨zS,zS⟩
 ·rintro(⟨h1,h2⟩ | ⟨h1,h2⟩)
  ·exact .inr (ab3 h1 h2)
  ·exact .inl (ab4 h1 h2)
theorem AG {n:ao} (hn:ar n=true):((et n).length+kE n n.ends.length=n.ends.length)↔∀v i f,bA n v i f->¬jU (jt n (gG v i f)) v f.1.toNat:=by
 have h0:=KI (KJ hn);have gM:(RF n).length=(et n).length:=by simp[RF]
 rw[gM,<- G8 hn]at h0;rw[Nat.add_comm,h0]
 have ZS:∀(k:Nat) (e:Ed),(et n)[k]?=some e->∀x,x∈(et n).eraseIdx k↔x∈et n/\x≠e:=by
  intro k e he x;have hnd:=G9 n;have h1:=tp he;obtain⟨hl,hee⟩:=Zbs.1 he
  have h2:e∉(et n).eraseIdx k:=by
   rw[List.eraseIdx_eq_take_drop_succ];have e1:et n=(et n).take k++e::(et n).drop (k+1):=by rw[<- hee,<- Zbt hl,List.take_append_drop]
   rw[e1]at hnd;have h3:=Zat.1 hnd;have h4:=List.nodup_cons.1 h3.2.1;intro hm;rcases Zar.1 hm with hm | hm
   ·exact h3.2.2 e hm e zS rfl
   ·exact h4.1 hm
  constructor
  ·intro hx;exact⟨(h1 x).2 (Zbd _ hx),fun e2=>h2 (e2 ▸ hx)⟩
  ·rintro⟨hx,jh⟩;rcases Zbe.1 ((h1 x).1 hx)with e2 | e2
   ·exact absurd e2 jh
   ·exact e2
 have lw:∀(k v i:Nat) (f:Int×Int),bA n v i f->k_ v i f=true->(et n)[k]?=some ((v:Int),(i:Int),f.1,f.2)->∀a b,lA ((RF n).eraseIdx k) a b↔jU (jt n (gG v i f)) a b:=by
  intro k v i f hp G6 he a b
  have:(RF n).eraseIdx k=((et n).eraseIdx k).map fun e=>(e.1.toNat,e.2.2.1.toNat):=by
   unfold RF;rw[List.eraseIdx_eq_take_drop_succ,List.eraseIdx_eq_take_drop_succ,List.map_append,List.map_take,List.map_drop]
  rw[this];refine Wb hn _ (ph hn hp) ?_;intro e;rw[ZS k _ he e];apply and_congr_right
  intro hm;obtain⟨x,j,g,hx,zj,hkx,rfl⟩:=d_.1 hm;obtain⟨f1,f2,f3,f4,f5⟩:=dZ hn hp;simp only[Zag,gG,Bool.not_eq_true',Zbn,Zah,beq_eq_false_iff_ne,ne_eq,Prod.mk.injEq];constructor
  ·intro jh;constructor
   ·rcases Nat.lt_trichotomy x v with h | h | h
    ·exact .inl zO
    ·subst h;refine .inr fun nh=>?_
     subst nh;unfold bA at zj hp;rw[zj]at hp;have hgf:=Zbx hp;subst hgf;exact jh ⟨rfl,rfl,rfl,rfl⟩
    ·exact .inl zO
   ·by_cases h1:x=f.1.toNat
    ·refine .inr fun h2=>?_
     subst h1 h2;unfold bA at zj f5;rw[zj]at f5;have hg:=Zbx f5;subst hg;have hff:=Oj f2 f4 G6 hkx;subst hff;simp at jh
    ·exact .inl h1
  ·rintro⟨h1,_⟩ ⟨q1,q2,_⟩
   rcases h1 with h1 | h1 <;> omega
 constructor
 ·intro hb v i f hp hr;obtain⟨f1,f2,f3,f4,f5⟩:=dZ hn hp
  by_cases G6:k_ v i f=true
  ·obtain⟨k,hk⟩:=List.mem_iff_getElem?.1 (d_.2 ⟨v,i,f,f1,hp,G6,rfl⟩);refine hb k (v,f.1.toNat) ?_ ((lw k v i f hp G6 hk _ _).2 hr);unfold RF;rw[Zbr,hk];simp
  ·have RH:=(Mu f2 f4 (by simpa using G6)).1;obtain⟨k,hk⟩:=List.mem_iff_getElem?.1 (d_.2 ⟨f.1.toNat,f.2.toNat,_,zO,f5,RH,rfl⟩)
   refine hb k (f.1.toNat,v) ?_ ((lw k _ _ _ f5 RH hk _ _).2 ?_)
   ·unfold RF;rw[Zbr,hk];simp only[Option.map_some,Zag]
   ·have hx:gG f.1.toNat f.2.toNat ((v:Int),(i:Int))=gG v i f:=by
     funext x j
     unfold gG;simp only[Zag];rw[Bool.or_comm]
    rw[hx];exact jU.symm (AF hn _ (ph hn hp)) (by simpa[jt]using f1) hr
 ·intro hb k e he hc;unfold RF at he;rw[Zbr]at he
  cases hk:(et n)[k]? with
  | none=>rw[hk]at he;simp at he
  | some x=>
   rw[hk]at he;obtain⟨v,i,f,hv,hp,G6,rfl⟩:=d_.1 (Zaq hk);simp only[Option.map_some,Option.some.injEq,Zag]at he;subst he;exact hb v i f hp ((lw k v i f hp G6 hk _ _).1 hc)
def ak (l:List (List Int)) (v i:Nat):Int:=(l.getD v []).getD i 0
def ax (l:List (List Int)) (v i:Nat):Prop:=i<(l.getD v []).length
def cO (l s:List (List Int)):Prop:=l.length=s.length/\∀v,(l.getD v []).length=(s.getD v []).length
theorem cO.refl (l:List (List Int)):cO l l:=⟨rfl,fun _=>rfl⟩
theorem cO.symm {l s:List (List Int)} (h:cO l s):cO s l:=⟨h.1.symm,fun v=>(h.2 v).symm⟩
theorem cO.trans {l s t:List (List Int)} (h:cO l s) (k:cO s t):cO l t:=⟨h.1.trans k.1,fun v=>(h.2 v).trans (k.2 v)⟩
theorem ax.lt {l:List (List Int)} {v i:Nat} (h:ax l v i):v<l.length:=by
 unfold ax at h;rcases Zbi v l.length with h1 | h1
 ·exact h1
 ·rw[zDd,Zce h1]at h;simp at h
theorem ax.same {l s:List (List Int)} {v i:Nat} (hs:cO l s) (h:ax l v i):ax s v i:=by unfold ax at h ⊢;rw[<- hs.2 v];exact h
theorem gH (l:List (List Int)) (v i:Nat) (x:Int):cO l (dX l ((v:Int),(i:Int)) x):=by
 unfold dX;simp only[Zag];refine⟨by rw[Zau],fun u=>?_⟩
 rw[zDd,zDd,Zci]
 by_cases e:v=u
 ·subst e;rw[if_pos rfl]
  split
  ·simp
  ·rename_i h1
   rw[Zce zO]
 ·rw[if_neg e]
theorem ju {l:List (List Int)} {v i:Nat} (h:ax l v i) (x:Int) (u j:Nat):ak (dX l ((v:Int),(i:Int)) x) u j=if u=v/\j=i then x else ak l u j:=by
 have hv:=h.lt;unfold ax at h
 unfold ak dX
 simp only[Zag];rw[zDd,zDd,Zci]
 by_cases e:v=u
 ·subst e;rw[if_pos rfl,if_pos hv];show((l.getD v []).set i x)[j]?.getD 0=_
  rw[Zci]
  by_cases e2:i=j
  ·subst e2;rw[if_pos rfl,if_pos h,if_pos ⟨rfl,rfl⟩];rfl
  ·rw[if_neg e2,if_neg (fun h=>e2 h.2.symm)]
   simp only[zDd]
 ·rw[if_neg e,if_neg (fun h=>e h.1.symm),zDd,zDd]
theorem j8 (l:List (List Int)) (v i:Nat):dt l ((v:Int),(i:Int))=ak l v i:=by unfold dt ak;simp only[Zag]
theorem RI {a b:Int} {c:List Int} (h:a<=b):(c.dropWhile fun x=>decide (x<a)).count b=c.count b:=by
 induction c with
 | nil=>rfl
 | cons x c ih=>
  by_cases hx:x<a
  ·rw[List.dropWhile_cons_of_pos (by simpa using hx),ih,List.count_cons_of_ne zO]
  ·rw[List.dropWhile_cons_of_neg (by simpa using hx)]
theorem pS {c l:List Int} (hc:c.Pairwise (· <= ·)) (hl:l.Pairwise (· <= ·)):gQ c l=true↔∀a,l.count a<=c.count a:=by
 induction l generalizing c with
 | nil=>simp[gQ]
 | cons a l ih=>
  have CZ:=List.pairwise_cons.1 hl;have hd:=hc.sublist (List.dropWhile_sublist (fun x=>decide (x<a)))
  have E6:=fun b (h:a<=b)=>RI (c:=c) h
  have aei:∀x r,(c.dropWhile fun x=>decide (x<a))=x::r->a<=x:=fun x r he=>by
   have h1:=List.head?_dropWhile_not (fun x=>decide (x<a)) c
   rw[he]at h1;simp at h1
   omega
  unfold gQ
  cases hdw:c.dropWhile (fun x=>decide (x<a)) with
  | nil=>
   simp only
   constructor
   ·intro h;cases h
   ·intro h;have h1:=h a;have h2:=E6 a (Int.le_refl _);rw[hdw]at h2;rw[List.count_cons_self]at h1;rw[List.count_nil]at h2;omega
  | cons x r=>
   rw[hdw]at hd E6;have pc:=List.pairwise_cons.1 hd;have hax:=aei x r hdw;simp only[Zai,beq_iff_eq];constructor
   ·rintro⟨rfl,h2⟩ b;have h3:=(ih pc.2 CZ.2).1 h2 b
    by_cases hb:x<=b
    ·rw[<- E6 b hb,List.count_cons,List.count_cons];omega
    ·rw[List.count_eq_zero.2 (fun hm=>?_)]
     ·omega
     ·rcases Zbe.1 hm with rfl | hm
      ·omega
      ·have:=CZ.1 b hm;omega
   ·intro h
    have Mc:x=a:=by
     have h1:=h a;rw[<- E6 a (Int.le_refl _),List.count_cons_self]at h1
     by_cases e:x=a
     ·exact e
     ·exfalso
      have:(x::r).count a=0:=List.count_eq_zero.2 fun hm=>by
       rcases Zbe.1 hm with h2 | hm
       ·exact e h2.symm
       ·have:=pc.1 a hm;omega
      omega
    subst Mc;refine⟨rfl,(ih pc.2 CZ.2).2 fun b=>?_⟩
    by_cases hb:x<=b
    ·have h1:=h b;rw[<- E6 b hb,List.count_cons,List.count_cons]at h1;omega
    ·rw[List.count_eq_zero.2 (fun hm=>zX (CZ.1 b hm))]
     omega
theorem RJ {c l:List Int} (h:gQ c l=true):l.Sublist c:=by
 induction l generalizing c with
 | nil=>exact List.nil_sublist _
 | cons a l ih=>
  unfold gQ at h;have hs:=List.dropWhile_sublist (l:=c) (fun x=>decide (x<a))
  cases hdw:c.dropWhile (fun x=>decide (x<a)) with
  | nil=>rw[hdw]at h;cases h
  | cons x r=>
   rw[hdw]at h hs;simp only[Zai,beq_iff_eq]at h;obtain⟨rfl,h2⟩:=h;exact((ih h2).cons_cons x).trans hs
theorem KL {c:List Int} (h:lY c=true):c.Pairwise (· <= ·):=by
 have h:=nC.1 h
 have lw:∀(k i:Nat),i+k<c.length->c.getD i 0<=c.getD (i+k) 0:=fun k=>by
  induction k with
  | zero=>intro i _;exact Int.le_refl _
  | succ k ih=>intro i hi;exact Int.le_trans (ih i zO) (h (i+k) zO)
 rw[Zbg];intro i j hi hj PP;have h1:=lw (j-i) i zO;rw[show i+(j-i)=j by omega,zDd,zDd,Zbu hi,Zbu hj]at h1
 exact h1
theorem iu {p:aq} (hp:bV p=true) {c:List Int} (hc:c∈p.nodes):(c.length:Int)=p.degree/\c.Pairwise (· <= ·)/\∀x∈c,0<=x/\x<=p.labels-1:=by
 unfold bV at hp;simp only[Zai,aB]at hp;obtain⟨i,hi⟩:=List.getElem?_of_mem hc;have h1:=QH hp.2.2.1 hi;unfold Gx at h1;simp only[Zai,beq_iff_eq]at h1;refine⟨h1.1,KL h1.2.1,fun x hx=>?_⟩
 have h2:=h1.2.2;unfold lX at h2;exact aB.1 (Zbh.1 h2 x hx)
theorem xN {row:List Int} {a:Int} (h:0<=a):(il row).count a=row.count a:=by
 unfold il;rw[List.count_filter (by simpa using h)]
theorem E7 {row:List Int} {a:Int} (h:a<0):(il row).count a=0:=by
 unfold il;rw[List.count_eq_zero];intro hm
 have:=(List.mem_filter.1 hm).2
 simp at this
 omega
theorem xO:∀(row fN:List Int),fN.length=row.length->(∀i,i<row.length->fN.getD i 0=row.getD i 0\/fN.getD i 0<0)->∀a,0<=a->fN.count a<=row.count a
 | [],[],_,_,_,_=>Zaj _
 | [],_::_,h,_,_,_=>by simp at h
 | _::_,[],h,_,_,_=>by simp at h
 | x::row,y::fN,h,hr,a,ha=>by
  have ih:=xO row fN (by simpa using h) (fun i hi=>by
   have:=hr (i+1) (by simpa using hi)
   simpa using this) a ha
  have h0:=hr 0 zS;simp only[List.getD_cons_zero]at h0;rw[List.count_cons,List.count_cons];rcases h0 with rfl | h0
  ·omega
  ·have:(y==a)=false:=by rw[beq_eq_false_iff_ne];omega
   rw[this];simp
   omega
theorem xP (xs:List Int) (a:Int):(dz xs).count a=xs.count a:=(ft xs).count_eq a
theorem vo {p:aq} (hp:bV p=true) (row:List Int):fJ p row=true↔((row.length:Int)=p.degree->∃c∈p.nodes,∀a,(il row).count a<=c.count a):=by
 unfold fJ;rw[Zbp,Bool.not_eq_true',beq_eq_false_iff_ne,Zcg];constructor
 ·intro h hl;rcases h with h | ⟨c,hc,h⟩
  ·exact absurd hl h
  ·refine⟨c,hc,fun a=>?_⟩
   rw[<- xP];exact(pS (iu hp hc).2.1 (fa _)).1 h a
 ·intro h
  by_cases hl:(row.length:Int)=p.degree
  ·obtain⟨c,hc,h⟩:=h hl;refine .inr ⟨c,hc,(pS (iu hp hc).2.1 (fa _)).2 fun a=>?_⟩
   rw[xP];exact h a
  ·exact .inl hl
theorem KM {p:aq} (hp:bV p=true) {row fN:List Int} (hl:fN.length=row.length) (hr:∀i,i<row.length->fN.getD i 0=row.getD i 0\/fN.getD i 0<0) (h:fJ p row=true):fJ p fN=true:=by
 refine(vo hp fN).2 fun hd=>?_
 obtain⟨c,hc,h⟩:=(vo hp row).1 h zO;refine⟨c,hc,fun a=>Zak ?_ (h a)⟩
 by_cases ha:0<=a
 ·rw[xN ha,xN ha];exact xO row fN hl hr a ha
 ·rw[E7 zO];exact Zac _
def l_ (p:aq) (row:List Int):Bool:=!((row.length:Int)==p.degree)||p.nodes.contains (dz row)
theorem kG {p:aq} (hp:bV p=true) {row:List Int} (h0:∀x∈row,0<=x):fJ p row=l_ p row:=by
 unfold fJ l_
 by_cases hl:(row.length:Int)=p.degree
 ·rw[beq_iff_eq.2 hl];simp only[Bool.not_true,Bool.false_or];have hk:il row=row:=List.filter_eq_self.2 fun a ha=>by simpa using h0 a ha
  rw[hk,Zbl,Zcg,Zbv];constructor
  ·rintro⟨c,hc,h⟩;have h1:=(iu hp hc).1
   have h2:=(RJ h).eq_of_length (by rw[(ft row).length_eq];omega)
   rw[h2];exact hc
  ·intro h;exact⟨_,h,(pS (iu hp h).2.1 (fa _)).2 fun _=>Zaj _⟩
 ·rw[beq_eq_false_iff_ne.2 hl];rfl
def cF (n:ao) (v i:Nat):Nat×Nat:=(((n.ends.getD v []).getD i (0,0)).1.toNat,((n.ends.getD v []).getD i (0,0)).2.toNat)
def dv (n:ao) (l:List (List Int)):Prop:=l.length=n.ends.length/\∀v,(l.getD v []).length=(n.ends.getD v []).length
theorem dv.of {n:ao} {l:List (List Int)} (h:qr n.ends l):dv n l:=by
 refine⟨h.1,fun v=>?_⟩
 by_cases hv:v<l.length
 ·obtain⟨row,hr⟩:=au l v hv
  obtain⟨es,he⟩:=au n.ends v (by rw[<- h.1];exact hv)
  rw[ag hr,ag he];exact h.2 v es row he hr
 ·rw[zDd,zDd,Zce zO,Zce (by rw[<- h.1];omega)]
  rfl
theorem dv.same {n:ao} {l s:List (List Int)} (h:dv n l) (hs:cO l s):dv n s:=⟨hs.1.symm.trans h.1,fun v=>(hs.2 v).symm.trans (h.2 v)⟩
theorem pT {n:ao} (hn:ar n=true) {l:List (List Int)} (hs:dv n l) {v i:Nat} (h:ax l v i):ax l (cF n v i).1 (cF n v i).2/\cF n (cF n v i).1 (cF n v i).2=(v,i)/\(n.ends.getD v []).getD i (0,0)=(((cF n v i).1:Int),((cF n v i).2:Int)):=by
 unfold ax at h;rw[hs.2 v]at h;obtain⟨f,hf⟩:=au (n.ends.getD v []) i h;have hp:=dZ hn (v:=v) (i:=i) (f:=f) hf;obtain⟨h1,h2,h3,h4,h5⟩:=hp
 have hm:cF n v i=(f.1.toNat,f.2.toNat):=by unfold cF;rw[ag hf]
 have uH:(n.ends.getD f.1.toNat [])[f.2.toNat]?=some ((v:Int),(i:Int)):=h5;rw[hm];refine⟨?_,?_,?_⟩
 ·unfold ax;rw[hs.2];exact ah uH
 ·unfold cF;rw[ag uH];simp
 ·rw[ag hf]
  refine Prod.ext ?_ ?_ <;> simp <;> omega
theorem tJ (p:aq) (a b:Int):edgeB p a b=edgeB p b a:=by unfold edgeB;rw[Int.min_comm,Int.max_comm]
def tK (p:aq) (n:ao) (l:List (List Int)) (v i:Nat):Bool:=decide (ak l v i<0)||(decide (ak l (cF n v i).1 (cF n v i).2<0)||edgeB p (ak l v i) (ak l (cF n v i).1 (cF n v i).2))
theorem AH (p:aq) (n:ao) (l:List (List Int)) (v i:Nat):ji p n.ends l ((v:Int),(i:Int))=tK p n l v i:=by
 unfold ji tK dt ak cF
 simp only[Zag]
theorem RK {p:aq} {n:ao} {l l':List (List Int)} (hr:∀v i,ax l v i->ak l' v i=ak l v i\/ak l' v i<0) (hn:ar n=true) (hs:dv n l) {v i:Nat} (hi:ax l v i) (h:tK p n l v i=true):tK p n l' v i=true:=by
 unfold tK at h ⊢
 rcases hr v i hi with e | e
 ·rcases hr _ _ (pT hn hs hi).1 with e2 | e2
  ·rw[e,e2];exact h
  ·rw[decide_eq_true e2];simp
 ·rw[decide_eq_true e];rfl
theorem eO {p:aq} {n:ao} {l:List (List Int)}:f7 p n.ends l=true↔∀v,v<l.length->fJ p (l.getD v [])=true/\∀i,ax l v i->tK p n l v i=true:=by
 unfold f7 oR
 rw[Zbh];simp only[Zai,Zbh,Zab,AH];rfl
theorem nJ {p:aq} {n:ao} {l l':List (List Int)} (hp:bV p=true) (hn:ar n=true) (hs:dv n l) (iR:cO l l') (hr:∀v i,ax l v i->ak l' v i=ak l v i\/ak l' v i<0) (h:f7 p n.ends l=true):f7 p n.ends l'=true:=by
 rw[eO]at h ⊢;intro v hv
 obtain⟨h1,h2⟩:=h v (by rw[iR.1];exact hv)
 refine⟨KM hp (iR.2 v).symm (fun i hi=>hr v i hi) h1,fun i hi=>?_⟩
 have jS:ax l v i:=hi.same iR.symm;exact RK hr hn hs jS (h2 i jS)
theorem KN {p:aq} {n:ao} {l l':List (List Int)} {v i:Nat} (hn:ar n=true) (hs:dv n l) (iR:cO l l') (he:∀u j,¬(u=v/\j=i)->ak l' u j=ak l u j)
  (h:f7 p n.ends l=true) (aG:fJ p (l'.getD v [])=true) (uy:tK p n l' v i=true) (hi:ax l v i):f7 p n.ends l'=true:=by
 rw[eO]at h ⊢;intro u hu
 obtain⟨h1,h2⟩:=h u (by rw[iR.1];exact hu)
 refine⟨?_,fun j hj=>?_⟩
 ·by_cases e:u=v
  ·rw[e];exact aG
  ·have:l'.getD u []=l.getD u []:=by
    refine Zck fun j=>?_
    by_cases hj:j<(l.getD u []).length
    ·have h3:=he u j (fun h=>e h.1)
     unfold ak at h3
     have oC:j<(l'.getD u []).length:=by rw[<- iR.2 u];exact hj
     rw[zDd (l:=l'.getD u []),zDd (l:=l.getD u []),Zbu hj,Zbu oC]at h3
     rw[Zbu hj,Zbu oC];exact congrArg some h3
    ·rw[Zce (by rw[<- iR.2 u];omega),Zce zO]
   rw[this];exact h1
 ·have oC:ax l u j:=hj.same iR.symm;obtain⟨m1,m2,-⟩:=pT hn hs oC
  by_cases e:u=v/\j=i
  ·rw[e.1,e.2];exact uy
  ·by_cases e2:(cF n u j).1=v/\(cF n u j).2=i
   ·have hm:cF n v i=(u,j):=by rw[<- e2.1,<- e2.2];exact m2
    unfold tK at uy ⊢
    rw[hm]at uy;rw[e2.1,e2.2];cases ha:decide (ak l' u j<0)
    ·cases hb:decide (ak l' v i<0)
     ·rw[ha,hb]at uy;simp only[Bool.false_or]at uy ⊢
      rw[tJ];exact uy
     ·rfl
    ·rfl
   ·have h3:=h2 j oC
    unfold tK at h3 ⊢
    rw[he u j e,he _ _ e2];exact h3
def kH (n:ao) (v:Nat) (r:Int) (k:Nat):List Int:=((List.range k).filter fun w=>jK 0 r ((cJ n v).getD w 0)).map Int.ofNat
theorem Hh {n:ao} {v:Nat} {r:Int} {k:Nat} {d:Int} (h:(cJ n v)[k]?=some d):kH n v r (k+1)=if jK 0 r d then kH n v r k++[(k:Int)] else kH n v r k:=by
 unfold kH;rw[Zaa,List.filter_append,List.map_append];have e:(cJ n v).getD k 0=d:=ag h
 cases hb:jK 0 r d <;> simp only[List.filter_cons,List.filter_nil,e,hb] <;> simp
theorem KO (n:ao) (v:Nat) (r:Int) (k:Nat):(kH n v r k).length<=k:=by
 unfold kH;rw[List.length_map];exact Zak (List.length_filter_le _ _) zS
theorem E9 {n:ao} (hn:ar n=true) {v w:Nat} (hv:v<n.ends.length) (hw:w<n.ends.length) : -1<=(cJ n v).getD w 0/\(cJ n v).getD w 0<n.ends.length:=by
 have hl:(cJ n v).length=n.ends.length:=vd hn _ _ _ (BI.start hv);refine Rs hn (n.ends.length+1) _ 0 (BI.start hv) _ ?_;show(cJ n v).getD w 0∈cJ n v
 rw[zDd,Zbu zO];exact Zbj _
theorem KP {n:ao} (hn:ar n=true) {v:Nat} (hv:v<n.ends.length):(kH n v 40 n.ends.length)[0]?=some (aH n v:Int):=by
 have e:((List.range n.ends.length).filter fun w=>jK 0 40 ((cJ n v).getD w 0))=(List.range n.ends.length).filter fun w=>decide (0<=(cJ n v).getD w 0):=by
  apply List.filter_congr
  intro w hw
  have:=E9 hn hv (Zab.1 hw)
  have:=(bK hn).2
  rw[Zbl,aB,decide_eq_true_eq];omega
 have hs:=dB hn hv;unfold kH;rw[e,Zbr]
 have:((List.range n.ends.length).filter fun w=>decide (0<=(cJ n v).getD w 0))[0]?=some (aH n v):=by
  rw[<- List.head?_eq_getElem?,List.head?_filter];unfold aH
  cases h:(List.range n.ends.length).find? fun w=>decide (0<=(cJ n v).getD w 0) with
  | none=>
   have:=List.find?_eq_none.1 h v (Zab.2 hv)
   exact absurd (decide_eq_true ((jr hn hv hv).2 jU.refl)) this
  | some u=>rfl
 rw[this];rfl
theorem KQ (ve vi vn:Value) (n:ao) (v:Nat) (r:Int) (w:World) (h:aR w ve vi vn n) (hn:ar n=true) (hv:v<n.ends.length):
  Calls Tryz.prog 158 #[.agg #[ve,vi,vn],.int .i64 v,.int .i64 r] w fun e w'=>∃u,e=.returned u/\Own w' w.heap.size u (kH n v r n.ends.length)/\Below w.heap.size w w':=by
 have iM:=bK hn;have On:=iM.1;have Oo:=iM.2;have Hn:=zh hn
 obtain⟨w0,A,c,A2,c2,A3,c3,rfl,rfl,rfl,fR,hm,gC,jz,HA,H,cD,aY,fp,fE,fM⟩:=zB h;clear h
 have aK:ab w0 w0:=aa _;clear hn iM
 go_enter Tryz.func158,Tryz.ntmps158
 go_upto_region 1 with(fail);rw[<- cD.out];go_wp2_with fail;refine(Aw _ _ _ n v w0 H Hn hv).mono ?_;obtain⟨ds,Wd⟩:=J_ (cJ n v)
 rw[<- Wd];rintro e w2 ⟨u2,rfl,dD,aS⟩
 have ZT:ds.length=n.ends.length:=by rw[Wd];exact vd Hn _ _ _ (BI.start hv)
 obtain⟨gd,cd,rfl⟩:∃gd cd,u2=.slice (some ⟨gd,0,none⟩) n.ends.length cd:=by
  rcases dD.cases with⟨-,e1⟩ | ⟨gd,cd,rfl,tC,ut⟩
  ·have:=congrArg List.length e1;rw[List.length_nil]at this;omega
  ·exact⟨gd,cd,by rw[ZT]⟩
 obtain⟨mg,eU,Hds,Hdl⟩:=C_ dD (aK.trans aS) Wd ZT;clear dD aS Wd ZT aK;go_wp2
 go_loopw [7,14] (fun u i wr=>∃k:Nat,k<=n.ends.length/\i=.int .i64 k/\Own wr w2.heap.size u (kH n v r k)/\ab w2 wr) (fun _ i _=>n.ends.length-(intOf i).toNat)
 case atStart=>exact⟨0,Zac _,rfl,by simpa[kH]using fA _ w2.heap.size,aa _⟩
 case round=>
  obtain⟨k,hk,rfl,ho,eD⟩:=hrel;obtain⟨Ho,Hs⟩:=A_ ho eD;clear ho eD
  by_cases aA:k<n.ends.length
  ·have m3:=zw k
   obtain⟨d,hd⟩:=au ds k (by rw[Hdl.out];exact aA)
   have cd1:=(mg.since Hs).cell hd
   have wM:=zh (Hh (r:=r) (show(cJ n v)[k]?=some d by rw[<- Hds.out];exact hd))
   have jb:Hid ((kH n v r k).length+1<=17592186044416):=by show _<=_;have:=KO n v r k;omega
   clear hd;go_upto_region 5 with(fail);go_wp2_with fail;refine(gA _ _ _ _).mono ?_;rintro e w' ⟨rfl,rfl⟩;cases hb:jK 0 r d
   ·rw[hb]at wM;clear cd1;go_wp2;go_roundw
    exact⟨k+1,zO,zN,by rw[wM.out];exact Ho,Hs⟩
    simp[intOf];omega
   ·rw[hb]at wM;clear cd1
    go_wp2_with (at_builtin;refine oP rfl _ _ rfl rfl (Ho.since (ad _ (aa _))) wr.heap.size k rfl (by simp[go_sem]) jb (ad _ Hs) ?_;intro g cc w3 gZ oi)
    obtain⟨uU,lM⟩:=A_ gZ oi;clear gZ oi;go_wp2;go_roundw
    exact⟨k+1,zO,zN,by rw[wM.out,if_pos trivial];exact uU,lM⟩
    simp[intOf];omega
  ·obtain rfl:k=n.ends.length:=zO
   clear hk aA;go_wp2;go_ret;exact⟨_,rfl,Ho.mono (Zak aY.size eU.below.size),ab.after aY (eU.after Hs)⟩
theorem AJ {n:ao} (hn:ar n=true) {v:Nat} (hv:v<n.ends.length):aH n v<n.ends.length:=(dB hn hv).2.1
theorem RM {n:ao} (hn:ar n=true) {v:Nat} (hv:v<n.ends.length):0<=(cJ n (aH n v)).getD v 0/\(cJ n (aH n v)).getD v 0<n.ends.length:=
 ⟨(jr hn (AJ hn hv) hv).2 ((wK hn (AJ hn hv) hv (As hn hv)).2 rfl),(E9 hn (AJ hn hv) hv).2⟩
def aej (v:Int) (s:Nat):Nat:=(200000-s)*2+(v+1).toNat
structure agh (n:ao) (l:List Int) (v:Int) (s:Nat) (f:Nat):Prop where
 len:l.length=n.ends.length
 rng:∀x∈l,-1<=x/\x<=2
 lo : -1<=v
 hi:v<=(n.ends.length:Int)
 st:s<=200000
 fu:aej v s<f
theorem rx (ls:List Int) (v j:Nat) (x:Int) (hj:j<ls.length):(ls.set v x).getD j 0=if v=j then x else ls.getD j 0:=by
 simp only[zDd,Zci]
 split
 ·rename_i e;subst e;simp[hj]
 ·rfl
structure St (N:Nat) (most:Int) (ls:List Int) (v:Nat):Prop where
 len:ls.length=N
 lo:∀j,j<v->j<N->0<=ls.getD j 0/\ls.getD j 0<=most
 at_:v<N -> -1<=ls.getD v 0/\ls.getD v 0<=most
 hi:∀j,v<j->j<N->ls.getD j 0 = -1
structure Up (N:Nat) (most:Int) (ls:List Int) (v:Nat):Prop where
 len:ls.length=N
 lo:∀j,j<=v->j<N->0<=ls.getD j 0/\ls.getD j 0<=most
 hi:∀j,v<j->j<N->ls.getD j 0 = -1
theorem St.back {N:Nat} {most:Int} {ls:List Int} {v:Nat} (h:St N most ls v) (h0:¬v=0):St N most (ls.set v (-1)) (v-1) where
 len:=by simp[h.len]
 lo:=fun j hj hn=>by rw[rx _ _ _ _ (by rw[h.len];exact hn),if_neg zO];exact h.lo j zO hn
 at_:=fun hn=>by rw[rx _ _ _ _ (by rw[h.len];exact hn),if_neg zO];have:=h.lo (v-1) zO hn;omega
 hi:=fun j hj hn=>by
  rw[rx _ _ _ _ (by rw[h.len];exact hn)]
  split
  ·rfl
  ·exact h.hi j zO hn
theorem St.up {N:Nat} {most:Int} {ls:List Int} {v:Nat} (h:St N most ls v) (hv:v<N) (hm:¬ls.getD v 0=most):Up N most (ls.set v (ls.getD v 0+1)) v where
 len:=by simp[h.len]
 lo:=fun j hj hn=>by
  rw[rx _ _ _ _ (by rw[h.len];exact hn)]
  have:=h.at_ hv
  split
  ·omega
  ·exact h.lo j zO hn
 hi:=fun j hj hn=>by rw[rx _ _ _ _ (by rw[h.len];exact hn),if_neg zO];exact h.hi j hj hn
theorem Up.stay {N:Nat} {most:Int} {ls:List Int} {v:Nat} (h:Up N most ls v):St N most ls v where
 len:=h.len
 lo:=fun j hj hn=>h.lo j zO hn
 at_:=fun hn=>zX (h.lo v (Zaj _) hn)
 hi:=h.hi
theorem Up.on {N:Nat} {most:Int} {ls:List Int} {v:Nat} (h:Up N most ls v) (hm:0<=most):St N most ls (v+1) where
 len:=h.len
 lo:=fun j hj hn=>h.lo j zO hn
 at_:=fun hn=>zX (h.hi (v+1) zO hn)
 hi:=fun j hj hn=>h.hi j zO hn
section
variable {W W' : World} {B : Nat} {ve vi vn vl : Value} {s m most lim st : Int}
end
section
variable {W W' : World} {B : Nat} {ve vi vn va vl : Value}
end
def ab5 (n:ao) (p:Nat) (w:Nat):Bool:=decide (aH n w=p)&&decide (n.agT.getD w 0=1)
def ZU (n:ao) (p k:Nat):List Nat:=(List.range k).filter (ab5 n p)
def ZV (n:ao) (p k:Nat):Nat:=((List.range k).filter fun w=>decide (aH n w=p)).length
def DN (n:ao):Bool:=(et n).any fun e=>decide (e.1=e.2.2.1)&&decide (e.2.1=e.2.2.2)
def sX (n:ao):Bool:=!DN n&&decide ((et n).length+kE n n.ends.length=n.ends.length)
structure Tr (N:Nat) (dep:Nat->Int) (par:Nat->Option Nat):Prop where
 some_:∀v p,v<N->par v=some p->p<N/\dep p+1=dep v
 pos:∀v,v<N->0<=dep v
def onW (par:Nat->Option Nat):Nat->Nat->Nat->Bool
 | 0,w,x=>w==x
 | f+1,w,x=>w==x||(match par w with | none=>false | some y=>onW par f y x)
def anc (dep:Nat->Int) (par:Nat->Option Nat) (w x:Nat):Bool:=onW par (dep w).toNat w x
def aek (dep:Nat->Int) (par:Nat->Option Nat) (D:List Nat) (w x:Nat):Bool:=w==x||D.any (fun c=>(par c==some x)&&anc dep par w c)
structure Szs (N:Nat) (dep:Nat->Int) (par:Nat->Option Nat) (D:List Nat) (s:List Int):Prop where
 len:s.length=N
 val:∀x,x<N->s.getD x 0=((List.range N).countP fun w=>aek dep par D w x:Nat)
end Go.Proofs.YtnioemnkfojmkaaGreat
