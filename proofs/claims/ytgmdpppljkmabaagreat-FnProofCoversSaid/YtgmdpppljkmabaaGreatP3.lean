/- Parts of the proof: walks of functions and plain laws. -/
import Derived.Test.YtgmdpppljkmabaaGreatP0
import Derived.Test.YtgmdpppljkmabaaGreatP1
import Derived.Test.YtgmdpppljkmabaaGreatP2
set_option maxRecDepth 100000
set_option maxHeartbeats 16000000
namespace Go.Proofs.YtgmdpppljkmabaaGreat
open Go Go.RowKit
theorem Own.since {w w':World} {base:Nat} {v:Value} {xs:List Int} (h:Own w base v xs) (hs:ab w w'):Own w' base v xs:=h.keep hs
theorem c_ {w w0:World} {ops:Array Oper} {rest:List Oper} {o:Oper} {a:Act} {Q:Exit->Act->World->Prop} (iG:o.guard=none) (s x:Operand)
  (ho:o.op=.call { callee:=.builtin .append,args:=#[s,x],argTypes:=#[25,25] }) {v:Value} {xs:List Int} (hs:a.eval s=v) (h:Own w w0.heap.size v xs) (b:Nat) (y:Int)
  (hx:a.eval x=.slice (some ⟨b,0,none⟩) 1 1) (hc:w.cell? ⟨b,0,none⟩=some (.int .i64 y)) (hl:xs.length+1<=17592186044416) (vK:ab w0 w)
  (k:∀g cap w',Own w' w0.heap.size (.slice (some ⟨g,0,none⟩) (xs.length+1) cap) (xs++[y])->ab w0 w'->wpList Tryz.prog ops Q rest (a.put o.dst (.slice (some ⟨g,0,none⟩) (xs.length+1) cap)) w'):wpList Tryz.prog ops Q (o::rest) a w:=by
 refine nJ iG s x ho hs h b y hx hc hl vK.size ?_;intro g cap w' h1 h2 h3 h4;exact k g cap w' h1 (Below.grown vK h2 vK.size (fun j hj=>(World.ownsRow.lt h j hj).1))
theorem fi {w:World} {v:Value} {fv:List (List (Int×Int))} {k:Nat} {es:List (Int×Int)} (h:lx w v fv) (bM:fv[k]?=some es):
  ∃(b off c:Nat) (u:Value),v=.slice (some ⟨b,off,none⟩) fv.length c/\k<fv.length/\w.cell? ⟨b,off+k,none⟩=some u/\yg w u es:=by
 obtain⟨A,c,rfl,fg,hm,hA⟩:=h;obtain⟨b,off,u,rfl,hc,dm⟩:=hA k es bM;exact⟨b,off,c,u,rfl,al bM,hc,dm⟩
theorem iu (ve vi vn:Value) (n:aj) (k:Nat) (es:List (Int×Int)) (w:World) (h:aC w ve vi vn n) (bM:n.ends[k]?=some es) (p8:es.length<=1000000):
  Calls Tryz.prog 186 #[.agg #[ve,vi,vn],.int .i64 k] w fun e w'=>∃u,e=.returned u/\Own w' w.heap.size u (es.map (·.1))/\Below w.heap.size w w':=by
 obtain⟨w0,A,c,A2,c2,A3,c3,rfl,rfl,rfl,fg,hm,f8,fP,HA,bS,aT,H,dP,d9,dV⟩:=zB h;clear h
 obtain⟨b,off,c',u,hA,hk,eD,dm⟩:=fi H.out.es bM;cases hA;obtain⟨A1,z1,rfl,dh,dt,gh⟩:=dm;unfold maxLen at dt;have r1:=ae eD;have qh:=zh gh;clear eD gh bM
 go_enter Tryz.func186,Tryz.ntmps186
 go_upto_region 1 with(fail);rw[<- bS.out];have aU:ab w0 w0:=aa _;go_wp2
 go_loopw [5,14] (fun u i wr=>∃j:Nat,j<=es.length/\i=.int .i64 j/\Own wr w0.heap.size u ((es.take j).map (·.1))/\ab w0 wr) (fun _ i _=>es.length-(intOf i).toNat)
 case atStart=>exact⟨0,Nat.zero_le _,rfl,by simpa using bU w0 w0.heap.size,aU⟩
 case round=>
  obtain⟨j,hj,rfl,ho,hs⟩:=hrel;have Ho:=zh ho;clear aU ho
  by_cases az:j<es.length
  ·obtain⟨⟨x1,x2⟩,hx⟩:=aA es j az;obtain⟨b1,mJ,rfl,ju,gC⟩:=qh.out j _ hx;have t1:=ae ju;have t2:=ae gC;have Hx:=zh hx;clear hx ju gC
   have g_:((es.take j).map (·.1)).length+1<=17592186044416:=by simp;omega
   have dz:=zh g_;clear g_
   go_wp2_with (at_builtin;refine c_ rfl _ _ rfl rfl (Ho.out.since (ad _ (ad _ (aa _)))) (wr.heap.size+1) x1 rfl (by simp[go_sem]) dz.out (ad _ (ad _ hs)) ?_;intro g cc w2 cZ fM)
   have E2:Hid (((es.take j).map (·.1)).length=j):=by show _=_;simp;omega
   have e1:(es.take j).map (·.1)++[x1]=(es.take (j+1)).map (·.1):=by rw[aV Hx.out];simp
   rw[e1]at cZ;have fG:=zh cZ;have cW:=zh fM;clear cZ fM hs e1;go_wp2;go_roundw
   case rel=>exact⟨j+1,by omega,by go_num,by first | exact fG.out | (have:=fG.out;rw[E2.out]at this;exact this),cW.out⟩
   case measure=>simp[intOf];omega
  ·obtain rfl:j=es.length:=by omega
   go_wp2;go_ret
   exact⟨_,rfl,by have:=Ho.out;rw[List.take_length]at this;exact this.mono aT.out.size,ab.after aT.out hs⟩
def aR (ls:List Int) (es:List (Int×Int)):List Int:=es.map fun e=>ls.getD e.1.toNat 0
theorem tM {ls:List Int} {es:List (Int×Int)} {j:Nat} {x:Int×Int} {l y:Int} (hx:es[j]?=some x) (hg:ls.getD x.1.toNat 0=y):y∈l::aR ls es:=List.mem_cons_of_mem _ (List.mem_map.2 ⟨x,List.mem_of_getElem? hx,hg⟩)
theorem MB {ls:List Int} {es:List (Int×Int)} {k:Nat} {l y:Int} (hk:ls[k]?=some l) (d_:∀e∈es,0<=e.1/\e.1<ls.length) (h:y∈l::aR ls es):y∈ls:=by
 rcases List.mem_cons.1 h with rfl | h
 ·exact List.mem_of_getElem? hk
 ·obtain⟨e,he,rfl⟩:=List.mem_map.1 h;obtain⟨h1,h2⟩:=d_ e he
  have:e.1.toNat<ls.length:=by omega
  rw[zDd,List.getElem?_eq_getElem this];exact List.getElem_mem this
theorem Am (ve vi vn vl:Value) (n:aj) (ls:List Int) (k:Nat) (es:List (Int×Int)) (w:World) (h:aC w ve vi vn n) (hl:aO w vl ls) (bM:n.ends[k]?=some es) (p8:es.length<=1000000) (d_:∀e∈es,0<=e.1/\e.1<ls.length):
  Calls Tryz.prog 146 #[.agg #[ve,vi,vn],.int .i64 k,vl] w fun e w'=>∃u,e=.returned u/\Own w' w.heap.size u (aR ls es)/\Below w.heap.size w w':=by
 obtain⟨w0,A,c,A2,c2,A3,c3,rfl,rfl,rfl,fg,hm,f8,fP,HA,bS,aT,H,dP,d9,dV⟩:=zB h;clear h
 obtain⟨b,off,c',u,hA,hk,eD,dm⟩:=fi H.out.es bM;cases hA;obtain⟨A1,z1,rfl,dh,dt,gh⟩:=dm;unfold maxLen at dt;have r1:=ae eD;have qh:=zh gh;have HL:=zh (hl.keep aT.out);have pO:=zh d_;obtain⟨AL,cL,rfl,yo,mF,_⟩:=hl;unfold maxLen at mF;clear eD gh bM d_
 go_enter Tryz.func146,Tryz.ntmps146
 go_upto_region 1 with(fail);rw[<- bS.out];have aU:ab w0 w0:=aa _;go_wp2
 go_loopw [7,16] (fun u i wr=>∃j:Nat,j<=es.length/\i=.int .i64 j/\Own wr w0.heap.size u (aR ls (es.take j))/\ab w0 wr) (fun _ i _=>es.length-(intOf i).toNat)
 case atStart=>exact⟨0,Nat.zero_le _,rfl,by simpa[aR]using bU w0 w0.heap.size,aU⟩
 case round=>
  obtain⟨j,hj,rfl,ho,hs⟩:=hrel;have Ho:=zh ho;clear aU ho
  by_cases az:j<es.length
  ·obtain⟨⟨x1,x2⟩,hx⟩:=aA es j az;obtain⟨b1,mJ,rfl,ju,gC⟩:=qh.out j _ hx;obtain⟨i1,i2⟩:=pO.out _ (List.mem_of_getElem? hx);simp only at i1 i2
   obtain⟨m1,bl,ol,cl,y,rfl,hv,ru,MC,kE,Fi⟩:=gG HL.out i1 i2;cases hv;have t1:=ae ju;have t2:=ae gC;have t3:=ae Fi;have Hx:=zh hx;have Hg:=zh kE;clear hx ju gC Fi MC kE
   have g_:(aR ls (es.take j)).length+1<=17592186044416:=by simp[aR];omega
   have dz:=zh g_;have fO:=(ab.below hs).size;clear g_
   go_wp2_with (at_builtin;refine c_ rfl _ _ rfl rfl (Ho.out.since (ad _ (ad _ (aa _)))) (wr.heap.size+1) y rfl (by simp[go_sem]) dz.out (ad _ (ad _ hs)) ?_;intro g cc w2 cZ fM)
   have E2:Hid ((aR ls (es.take j)).length=j):=by show _=_;simp[aR];omega
   have e1:aR ls (es.take j)++[y]=aR ls (es.take (j+1)):=by rw[aV Hx.out];simp only[aR,List.map_append,List.map_cons,List.map_nil,Hg.out]
   rw[e1]at cZ;have fG:=zh cZ;have cW:=zh fM;clear cZ fM hs e1;go_wp2;go_roundw
   case rel=>exact⟨j+1,by omega,by go_num,by first | exact fG.out | (have:=fG.out;rw[E2.out]at this;exact this),cW.out⟩
   case measure=>simp[intOf];omega
  ·obtain rfl:j=es.length:=by omega
   go_wp2;go_ret
   exact⟨_,rfl,by have:=Ho.out;rw[List.take_length]at this;exact this.mono aT.out.size,ab.after aT.out hs⟩
theorem Gf (b:Bool) (w:World):Calls Tryz.prog 90 #[.bool b] w fun e w'=>e=.returned (.int .i64 (if b then 1 else 0))/\w=w':=by
 cases b
 ·go_enter Tryz.func90,Tryz.ntmps90
  go_wp2;go_ret;exact⟨rfl,rfl⟩
 ·go_enter Tryz.func90,Tryz.ntmps90
  go_wp2;go_ret;exact⟨rfl,rfl⟩
def ZF (m l:Int) (xs:List Int):Bool:=
 (xs.all fun x=>x==(l+m-1)%m||x==(l+1)%m)&&(xs.countP (fun x=>x==(l+m-1)%m)==1||(xs.countP (fun x=>x==(l+m-1)%m)==0&&l==0))
theorem Gg {p q:Int->Bool} {xs:List Int} (hd:∀x∈xs,p x=true->q x=false):xs.countP p+xs.countP q<=xs.length/\(xs.countP p+xs.countP q=xs.length↔∀x∈xs,p x=true\/q x=true):=by
 induction xs with
 | nil=>simp
 | cons a xs ih=>
  have ih:=ih (fun x hx=>hd x (List.mem_cons_of_mem _ hx))
  have ha:=hd a (by simp);rw[List.countP_cons,List.countP_cons,List.length_cons];cases hp:p a
  ·cases hq:q a
   ·simp only[Bool.false_eq_true,if_false,List.forall_mem_cons,hp,hq,false_or,false_and,iff_false];omega
   ·simp only[Bool.false_eq_true,if_false,if_true,List.forall_mem_cons,hp,hq,or_true,true_and];refine⟨by omega,?_⟩
    rw[<- ih.2];omega
  ·have hq:=ha hp;simp only[Bool.false_eq_true,if_false,if_true,List.forall_mem_cons,hp,hq,true_or,true_and];refine⟨by omega,?_⟩
   rw[<- ih.2];omega
theorem bV {n:aj} (h:ak n=true) {k:Nat} {es:List (Int×Int)} (bM:n.ends[k]?=some es):es.length<=6/\∀e∈es,0<=e.1/\e.1<n.ends.length:=by
 have hk:=al bM;have h':=h;unfold ak at h;rw[Bool.and_eq_true,List.all_eq_true]at h
 have:=h.2 k (List.mem_range.2 hk)
 rw[ao bM]at this;unfold fZ at this;rw[Bool.and_eq_true,List.all_eq_true]at this;refine⟨by simpa using this.1,fun e he=>?_⟩
 obtain⟨j,hj⟩:=List.getElem?_of_mem he
 have:=this.2 j (List.mem_range.2 (al hj))
 rw[ao hj]at this;unfold iM at this;rw[Bool.and_eq_true]at this;exact Dl this.1
theorem xy (c:Nat):((c:Int)==1)=(c==1):=by rw[Bool.eq_iff_iff];simp;omega
theorem Gh (c:Nat):((c:Int)==0)=(c==0):=by rw[Bool.eq_iff_iff];simp
theorem kT {p:Int->Bool} {xs:List Int} {y:Int}:(xs++[y]).countP p=xs.countP p+if p y then 1 else 0:=by
 rw[List.countP_append];simp[List.countP_cons]
def aQ (cur:Int) (st:List Int×List Int) (x:Int):List Int×List Int:=if st.1.getD x.toNat 0<0 then (st.1.set x.toNat (st.1.getD cur.toNat 0+1),st.2++[x]) else st
def dW (n:aj) (cur:Int):List Int:=(n.ends.getD cur.toNat []).map fun e=>e.1
def qp (n:aj):Nat->List Int×List Int->Nat->List Int
 | 0,st,_=>st.1
 | f+1,st,i=>if i<st.2.length then qp n f ((dW n (st.2.getD i 0)).foldl (aQ (st.2.getD i 0)) st) (i+1) else st.1
def bn (n:aj) (v:Nat):List Int×List Int:=((List.replicate n.ends.length (-1)).set v 0,[(v:Int)])
def bC (n:aj) (v:Nat):List Int:=qp n (n.ends.length+1) (bn n v) 0
structure BI (N:Nat) (st:List Int×List Int):Prop where
 len:st.1.length=N
 walk:∀x∈st.2,0<=x/\x<N
 cnt:st.2.length+st.1.countP (fun x=>decide (x<0))=N
 val:∀x∈st.1,-1<=x/\x<st.2.length
theorem BI.start {n:aj} {v:Nat} (hv:v<n.ends.length):BI n.ends.length (bn n v) where
 len:=by simp[bn]
 walk:=fun x hx=>by simp[bn]at hx;omega
 cnt:=by
  unfold bn;rw[List.countP_set (by simpa using hv)];simp[List.countP_replicate]
  omega
 val:=fun x hx=>by
  unfold bn at hx ⊢
  rcases List.mem_or_eq_of_mem_set hx with hx | rfl
  ·have:=List.eq_of_mem_replicate hx
   subst this;simp
  ·simp
theorem BI.bd {N:Nat} {st:List Int×List Int} (h:BI N st):st.2.length<=N:=by have:=h.cnt;omega
theorem BI.step {N:Nat} {st:List Int×List Int} (h:BI N st) {cur x:Int} (hc:0<=cur/\cur<N) (hx:0<=x/\x<N):BI N (aQ cur st x):=by
 unfold aQ
 split
 ·rename_i mv
  have rh:x.toNat<st.1.length:=by rw[h.len];omega
  have eG:cur.toNat<st.1.length:=by rw[h.len];omega
  have pN:st.1[x.toNat]<0:=by rwa [zDd,List.getElem?_eq_getElem rh]at mv
  have Yb : -1<=st.1.getD cur.toNat 0/\st.1.getD cur.toNat 0<st.2.length:=by
   rw[zDd,List.getElem?_eq_getElem eG];exact h.val _ (List.getElem_mem eG)
  obtain⟨q,hq⟩:∃q,q=st.1.getD cur.toNat 0:=⟨_,rfl⟩
  rw[<- hq]at Yb ⊢;refine⟨by simp[h.len],fun y hy=>?_,?_,fun y hy=>?_⟩
  ·rcases List.mem_append.1 hy with hy | hy
   ·exact h.walk y hy
   ·simp at hy;subst hy;exact hx
  ·have h2:=h.cnt;have h3:0<st.1.countP (fun x=>decide (x<0)):=List.countP_pos_iff.2 ⟨_,List.getElem_mem rh,by simpa using pN⟩
   have e1:(decide (st.1[x.toNat]<0))=true:=by simpa using pN
   have e2:(decide (q+1<0))=false:=by simp;omega
   show(st.2++[x]).length+_=_
   rw[List.countP_set rh,e1,e2,List.length_append];simp
   omega
  ·show _/\y<((st.2++[x]).length:Nat)
   rw[List.length_append];rcases List.mem_or_eq_of_mem_set hy with hy | rfl
   ·have:=h.val y hy;simp;omega
   ·simp;omega
 ·exact h
theorem BI.fold {N:Nat} {cur:Int} (hc:0<=cur/\cur<N):∀(xs:List Int) {st:List Int×List Int},BI N st->(∀x∈xs,0<=x/\x<N)->BI N (xs.foldl (aQ cur) st)
 | [],_,h,_=>h
 | x::xs,_,h,hx=>BI.fold hc xs (h.step hc (hx x (by simp))) (fun y hy=>hx y (List.mem_cons_of_mem _ hy))
theorem pg (cur:Int) (st:List Int×List Int) (x:Int):∃ys,(aQ cur st x).2=st.2++ys:=by
 unfold aQ
 split
 ·exact⟨_,rfl⟩
 ·exact⟨[],by simp⟩
theorem jg (cur:Int):∀(xs:List Int) (st:List Int×List Int),∃ys,(xs.foldl (aQ cur) st).2=st.2++ys
 | [],st=>⟨[],by simp⟩
 | x::xs,st=>by
  obtain⟨y1,h1⟩:=pg cur st x;obtain⟨y2,h2⟩:=jg cur xs (aQ cur st x);exact⟨y1++y2,by rw[List.foldl_cons,h2,h1,List.append_assoc]⟩
theorem rv {cur:Int} {xs:List Int} {st:List Int×List Int} {j:Nat} {x:Int} (hx:xs[j]?=some x):(xs.take (j+1)).foldl (aQ cur) st=aQ cur ((xs.take j).foldl (aQ cur) st) x:=by
 rw[aV hx,List.foldl_append];rfl
theorem lZ {n:aj} (hn:ak n=true) {cur:Int} (hc:0<=cur/\cur<n.ends.length):∀x∈dW n cur,0<=x/\x<n.ends.length:=by
 obtain⟨k,rfl⟩:=Int.eq_ofNat_of_zero_le hc.1;obtain⟨es,bM⟩:=aA n.ends k (by omega);obtain⟨-,d_⟩:=bV hn bM;intro x hx;unfold dW at hx;rw[Int.toNat_natCast,zDd,bM]at hx;obtain⟨e,he,rfl⟩:=List.mem_map.1 hx;exact d_ e he
theorem Jn {n:aj} (hn:ak n=true):∀(f:Nat) (st:List Int×List Int) (i:Nat),BI n.ends.length st->∀x∈qp n f st i,-1<=x/\x<n.ends.length
 | 0,st,_,h,x,hx=>by have:=h.val x hx;have:=h.bd;omega
 | f+1,st,i,h,x,hx=>by
  unfold qp at hx
  split at hx
  ·rename_i hi
   have hw:=h.walk (st.2.getD i 0) (by rw[zDd,List.getElem?_eq_getElem hi];exact List.getElem_mem hi)
   exact Jn hn f _ (i+1) (h.fold hw _ (lZ hn hw)) x hx
  ·have:=h.val x hx;have:=h.bd;omega
theorem j2 {n:aj} (hn:ak n=true):∀(f:Nat) (st:List Int×List Int) (i:Nat),BI n.ends.length st->(qp n f st i).length=n.ends.length
 | 0,st,_,h=>h.len
 | f+1,st,i,h=>by
  unfold qp
  split
  ·rename_i hi
   have hw:=h.walk (st.2.getD i 0) (by rw[zDd,List.getElem?_eq_getElem hi];exact List.getElem_mem hi)
   exact j2 hn f _ (i+1) (h.fold hw _ (lZ hn hw))
  ·exact h.len
inductive hZ (n:aj) (v:Nat):Nat->Prop
 | refl:hZ n v v
 | step {a b:Nat}:hZ n v a->(b:Int)∈dW n (a:Int)->hZ n v b
structure BR (n:aj) (v:Nat) (st:List Int×List Int):Prop where
 seen:∀w:Nat,w<n.ends.length->(0<=st.1.getD w 0↔(w:Int)∈st.2)
 rch:∀x∈st.2,hZ n v x.toNat
 start:(v:Int)∈st.2
theorem BR.begin {n:aj} {v:Nat} (hv:v<n.ends.length):BR n v (bn n v) where
 seen:=fun w hw=>by
  unfold bn;show 0<=((List.replicate n.ends.length (-1:Int)).set v 0).getD w 0↔_
  rw[zDd,List.getElem?_set]
  by_cases h:v=w
  ·subst h;simp[hv]
  ·rw[if_neg h,List.getElem?_replicate,if_pos hw];simp
   omega
 rch:=fun x hx=>by
  have:x=(v:Int):=by simpa[bn]using hx
  subst this;exact hZ.refl
 start:=by simp[bn]
theorem Gi {cur:Int} {st:List Int×List Int} {x y:Int} (h:y∈st.2):y∈(aQ cur st x).2:=by
 obtain⟨ys,h2⟩:=pg cur st x;rw[h2];exact List.mem_append_left _ h
theorem BR.one {n:aj} {v:Nat} {st:List Int×List Int} {cur x:Int} (hI:BI n.ends.length st) (h:BR n v st) (hc:cur∈st.2) (hx:x∈dW n cur) (n9:0<=x/\x<n.ends.length):BR n v (aQ cur st x)/\x∈(aQ cur st x).2:=by
 have Dn:=hI.walk cur hc;obtain⟨c,rfl⟩:=Int.eq_ofNat_of_zero_le Dn.1;obtain⟨y,rfl⟩:=Int.eq_ofNat_of_zero_le n9.1;have hq:=(h.seen c (by omega)).2 hc;have g_:=hI.len;unfold aQ
 split
 ·rename_i mv
  refine⟨⟨fun w hw=>?_,fun z hz=>?_,List.mem_append_left _ h.start⟩,by simp⟩
  ·show 0<=(st.1.set (y:Int).toNat _).getD w 0↔(w:Int)∈st.2++[(y:Int)]
   rw[zDd,List.getElem?_set,Int.toNat_natCast]
   by_cases e:y=w
   ·subst e;rw[if_pos rfl,if_pos (by omega)];simp only[Option.getD_some,List.mem_append,List.mem_singleton,or_true,iff_true];rw[Int.toNat_natCast];omega
   ·rw[if_neg e,<- zDd,h.seen w hw,List.mem_append,List.mem_singleton];constructor
    ·exact Or.inl
    ·rintro(h2 | h2)
     ·exact h2
     ·omega
  ·rcases List.mem_append.1 hz with hz | hz
   ·exact h.rch z hz
   ·obtain rfl:z=(y:Int):=by simpa using hz
    exact hZ.step (h.rch _ hc) (by simpa using hx)
 ·rename_i mv
  exact⟨h,(h.seen y (by omega)).1 (by rw[Int.toNat_natCast]at mv;omega)⟩
theorem BR.fold {n:aj} {v:Nat} {cur:Int}:∀(xs:List Int) {st:List Int×List Int},BI n.ends.length st->BR n v st->cur∈st.2->(∀x∈xs,x∈dW n cur/\0<=x/\x<n.ends.length)->BR n v (xs.foldl (aQ cur) st)/\∀x∈xs,x∈(xs.foldl (aQ cur) st).2
 | [],_,_,h,_,_=>⟨h,fun _ hx=>by simp at hx⟩
 | x::xs,st,hI,h,hc,xz=>by
  have hx:=xz x (List.mem_cons_self ..);have h1:=BR.one hI h hc hx.1 hx.2;have h2:=BR.fold xs (hI.step (hI.walk cur hc) hx.2) h1.1 (Gi hc) (fun y hy=>xz y (List.mem_cons_of_mem _ hy))
  refine⟨h2.1,fun y hy=>?_⟩
  rcases List.mem_cons.1 hy with rfl | hy
  ·obtain⟨ys,hw⟩:=jg cur xs (aQ cur st y);show y∈(xs.foldl (aQ cur) (aQ cur st y)).2
   rw[hw];exact List.mem_append_left _ h1.2
  ·exact h2.2 y hy
theorem Fj {n:aj} (hn:ak n=true) {v:Nat}:∀(f:Nat) (st:List Int×List Int) (i:Nat),BI n.ends.length st->BR n v st->(∀k,k<i->∀x∈dW n (st.2.getD k 0),x∈st.2)->i<=st.2.length->n.ends.length<f+i ->
  ∃dp:List Int×List Int,qp n f st i=dp.1/\BI n.ends.length dp/\BR n v dp/\∀y∈dp.2,∀x∈dW n y,x∈dp.2
 | 0,st,i,hI,_,_,hi,hf=>by have:=hI.bd;omega
 | f+1,st,i,hI,hR,hC,hi,hf=>by
  unfold qp
  by_cases az:i<st.2.length
  ·rw[if_pos az]
   have hc:st.2.getD i 0∈st.2:=by rw[zDd,List.getElem?_eq_getElem az];exact List.getElem_mem az
   have Dn:=hI.walk _ hc;have d_:=lZ hn Dn;have h1:=BR.fold (cur:=st.2.getD i 0) (dW n (st.2.getD i 0)) hI hR hc (fun x hx=>⟨hx,d_ x hx⟩)
   obtain⟨ys,hw⟩:=jg (st.2.getD i 0) (dW n (st.2.getD i 0)) st
   refine Fj hn f _ (i+1) (hI.fold Dn _ d_) h1.1 (fun k hk x hx=>?_) (by rw[hw,List.length_append];omega) (by omega)
   have ek:((dW n (st.2.getD i 0)).foldl (aQ (st.2.getD i 0)) st).2.getD k 0=st.2.getD k 0:=by
    rw[hw,zDd,List.getElem?_append_left (by omega),<- zDd]
   rw[ek]at hx
   by_cases e:k=i
   ·subst e;exact h1.2 x hx
   ·rw[hw];exact List.mem_append_left _ (hC k (by omega) x hx)
  ·rw[if_neg az];refine⟨st,rfl,hI,hR,fun y hy x hx=>?_⟩
   obtain⟨k,hk,rfl⟩:=List.mem_iff_getElem.1 hy;refine hC k (by omega) x ?_
   rwa [zDd,List.getElem?_eq_getElem hk]
theorem ph {n:aj} (hn:ak n=true) {v w:Nat} (hv:v<n.ends.length) (h:hZ n v w):w<n.ends.length:=by
 induction h with
 | refl=>exact hv
 | step _ h2 ih=>have:=lZ hn ⟨by omega,by omega⟩ _ h2;omega
theorem gH {n:aj} (hn:ak n=true) {v w:Nat} (hv:v<n.ends.length) (hw:w<n.ends.length):0<=(bC n v).getD w 0↔hZ n v w:=by
 obtain⟨st,h1,h2,h3,h4⟩:=Fj hn (n.ends.length+1) (bn n v) 0 (BI.start hv) (BR.begin hv) (fun k hk=>by omega) (Nat.zero_le _) (by omega)
 unfold bC;rw[h1,h3.seen w hw];constructor
 ·intro h;have:=h3.rch _ h;simpa using this
 ·intro h;clear hw
  induction h with
  | refl=>exact h3.start
  | step _ hb ih=>exact h4 _ ih _ hb
theorem hZ.trans {n:aj} {a b c:Nat} (h:hZ n a b) (h2:hZ n b c):hZ n a c:=by
 induction h2 with
 | refl=>exact h
 | step _ hb ih=>exact hZ.step ih hb
theorem l0 {n:aj} {a b:Nat}:(b:Int)∈dW n (a:Int)↔∃(j:Nat) (q:Int),(n.ends.getD a [])[j]?=some ((b:Int),q):=by
 unfold dW;rw[List.mem_map,Int.toNat_natCast];constructor
 ·rintro⟨⟨x,q⟩,hm,h⟩;obtain⟨j,hj⟩:=List.mem_iff_getElem?.1 hm;simp only at h
  subst h;exact⟨j,q,hj⟩
 ·rintro⟨j,q,h⟩;exact⟨_,List.mem_of_getElem? h,rfl⟩
theorem tb {n:aj} (hn:ak n=true) {a b:Nat} (ha:a<n.ends.length) (h:(b:Int)∈dW n (a:Int)):(a:Int)∈dW n (b:Int):=by
 obtain⟨j,q,hj⟩:=l0.1 h
 have sH:j<(n.ends.getD a []).length:=by
  rcases Nat.lt_or_ge j (n.ends.getD a []).length with h2 | h2
  ·exact h2
  ·rw[List.getElem?_eq_none h2]at hj;cases hj
 have hp:bT n.ends (a:Int) (j:Int)=true:=by
  unfold bT;rw[Bool.and_eq_true,Int.toNat_natCast];exact⟨bz.2 (by omega),bz.2 (by omega)⟩
 have h2:=rt hn hp
 have he:dO n.ends (a:Int) (j:Int)=((b:Int),q):=by
  unfold dO;rw[Int.toNat_natCast,Int.toNat_natCast,zDd,hj];rfl
 rw[he]at h2;obtain⟨h3,h4⟩:=h2;unfold bT at h3;rw[Bool.and_eq_true]at h3;have h5:=bz.1 h3.2;obtain⟨q',rfl⟩:=Int.eq_ofNat_of_zero_le h5.1;rw[l0];unfold dO at h4;rw[Int.toNat_natCast,Int.toNat_natCast]at h4;rw[Int.toNat_natCast]at h5;refine⟨q',(j:Int),?_⟩;have hl:q'<(n.ends.getD b []).length:=by omega
 rw[zDd (l:=n.ends.getD b []),List.getElem?_eq_getElem hl]at h4
 rw[List.getElem?_eq_getElem hl];exact congrArg some h4
theorem hZ.symm {n:aj} (hn:ak n=true) {a b:Nat} (ha:a<n.ends.length) (h:hZ n a b):hZ n b a:=by
 induction h with
 | refl=>exact hZ.refl
 | step h1 hb ih=>exact hZ.trans (hZ.step hZ.refl (tb hn (ph hn ha h1) hb)) ih
def am (n:aj) (v:Nat):Nat:=((List.range n.ends.length).find? fun w=>decide (0<=(bC n v).getD w 0)).getD 0
def bW (n:aj):List Int:=(List.range n.ends.length).map fun v=>(am n v:Int)
theorem bA {n:aj} (hn:ak n=true) {v:Nat} (hv:v<n.ends.length):hZ n v (am n v)/\am n v<n.ends.length/\(∀w,hZ n v w->am n v<=w):=by
 unfold am
 cases h:(List.range n.ends.length).find? fun w=>decide (0<=(bC n v).getD w 0) with
 | none=>
  have:=List.find?_eq_none.1 h v (List.mem_range.2 hv)
  exact absurd (decide_eq_true ((gH hn hv hv).2 hZ.refl)) this
 | some u=>
  rw[List.find?_range_eq_some]at h;obtain⟨h1,h2,h3⟩:=h;have hu:=List.mem_range.1 h2;refine⟨(gH hn hv hu).1 (of_decide_eq_true h1),hu,fun w hw=>?_⟩
  show u<=w
  rcases Nat.lt_or_ge w u with az | hge
  ·have:=h3 w az
   rw[decide_eq_true ((gH hn hv (by omega)).2 hw)]at this;cases this
  ·exact hge
theorem An {n:aj} (hn:ak n=true) {v:Nat} (hv:v<n.ends.length):am n v<=v:=(bA hn hv).2.2 v hZ.refl
theorem gJ {n:aj} (hn:ak n=true) {a b:Nat} (ha:a<n.ends.length) (h:hZ n a b):am n a=am n b:=by
 have hb:=ph hn ha h;have h1:=bA hn ha;have h2:=bA hn hb;exact Nat.le_antisymm (h1.2.2 _ (h.trans h2.1)) (h2.2.2 _ ((h.symm hn ha).trans h1.1))
theorem l4 {n:aj} (hn:ak n=true) {v:Nat} (hv:v<n.ends.length):am n (am n v)=am n v:=(gJ hn hv (bA hn hv).1).symm
theorem rx {n:aj} (hn:ak n=true) {k w:Nat} (hk:k<n.ends.length) (hw:w<n.ends.length) (hr:am n k=k):hZ n k w↔am n w=k:=by
 constructor
 ·intro h;rw[<- gJ hn hk h,hr]
 ·intro h;have:=(bA hn hw).1;rw[h]at this;exact this.symm hn hw
def fH (n:aj) (k j:Nat):List Int:=(List.range n.ends.length).map fun w=>if decide (am n w<k)||(decide (am n w=k)&&decide (w<j)) then (am n w:Int) else -1
theorem dR (n:aj) (k j:Nat):(fH n k j).length=n.ends.length:=by simp[fH]
theorem fj {n:aj} {k j w:Nat} (hw:w<n.ends.length):(fH n k j)[w]?=some (if decide (am n w<k)||(decide (am n w=k)&&decide (w<j)) then (am n w:Int) else -1):=by
 unfold fH;rw[List.getElem?_map,List.getElem?_range hw];rfl
theorem Ao (n:aj):fH n 0 0=List.replicate n.ends.length (-1):=by
 apply List.ext_getElem?
 intro w
 by_cases hw:w<n.ends.length
 ·rw[fj hw,List.getElem?_replicate,if_pos hw];simp
 ·rw[List.getElem?_eq_none (by rw[dR];omega),List.getElem?_eq_none (by simp;omega)]
theorem Do (n:aj) {j:Nat} (hn:ak n=true):fH n n.ends.length j=bW n:=by
 apply List.ext_getElem?
 intro w
 by_cases hw:w<n.ends.length
 ·rw[fj hw,if_pos (by simp[(bA hn hw).2.1])]
  unfold bW;rw[List.getElem?_map,List.getElem?_range hw];rfl
 ·rw[List.getElem?_eq_none (by rw[dR];omega),List.getElem?_eq_none (by simp[bW];omega)]
theorem Ap (n:aj) (k:Nat):fH n k n.ends.length=fH n (k+1) 0:=by
 apply List.ext_getElem?
 intro w
 by_cases hw:w<n.ends.length
 ·rw[fj hw,fj hw];congr 2
  simp only[Bool.or_eq_true,Bool.and_eq_true,decide_eq_true_eq,eq_iff_iff];omega
 ·rw[List.getElem?_eq_none (by rw[dR];omega),List.getElem?_eq_none (by rw[dR];omega)]
theorem Ar {n:aj} (hn:ak n=true) {k:Nat} (hk:k<n.ends.length) (hr:am n k≠k):fH n k 0=fH n (k+1) 0:=by
 apply List.ext_getElem?
 intro w
 by_cases hw:w<n.ends.length
 ·rw[fj hw,fj hw];congr 2
  simp only[Bool.or_eq_true,Bool.and_eq_true,decide_eq_true_eq,eq_iff_iff]
  have:am n w≠k:=fun h=>hr (by rw[<- h];exact l4 hn hw)
  omega
 ·rw[List.getElem?_eq_none (by rw[dR];omega),List.getElem?_eq_none (by rw[dR];omega)]
theorem As {n:aj} (hn:ak n=true) {k:Nat} (hk:k<n.ends.length):∃x,(fH n k 0)[k]?=some x/\(0<=x↔am n k≠k):=by
 refine⟨_,fj hk,?_⟩
 have:=An hn hk
 by_cases h:am n k=k
 ·rw[h];simp
 ·rw[if_pos (by simp;omega)];constructor
  ·intro _;exact h
  ·intro _;omega
theorem Dp {n:aj} (hn:ak n=true) {k j:Nat} (hk:k<n.ends.length) (hj:j<n.ends.length) (hr:am n k=k) (hd:0<=(bC n k).getD j 0):(fH n k j).set j (k:Int)=fH n k (j+1):=by
 have hl:=(rx hn hk hj hr).1 ((gH hn hk hj).1 hd);apply List.ext_getElem?
 intro w
 by_cases hw:w<n.ends.length
 ·rw[List.getElem?_set,fj hw,fj hw,dR]
  by_cases e:j=w
  ·subst e;rw[if_pos rfl,if_pos hj,hl,if_pos (by simp)]
  ·rw[if_neg e];congr 2
   simp only[Bool.or_eq_true,Bool.and_eq_true,decide_eq_true_eq,eq_iff_iff];omega
 ·rw[List.getElem?_eq_none (by rw[List.length_set,dR];omega),List.getElem?_eq_none (by rw[dR];omega)]
theorem Aw {n:aj} (hn:ak n=true) {k j:Nat} (hk:k<n.ends.length) (hj:j<n.ends.length) (hr:am n k=k) (hd:¬0<=(bC n k).getD j 0):fH n k j=fH n k (j+1):=by
 have hl:am n j≠k:=fun h=>hd ((gH hn hk hj).2 ((rx hn hk hj hr).2 h))
 apply List.ext_getElem?
 intro w
 by_cases hw:w<n.ends.length
 ·rw[fj hw,fj hw];congr 2
  simp only[Bool.or_eq_true,Bool.and_eq_true,decide_eq_true_eq,eq_iff_iff]
  by_cases e:j=w
  ·subst e;omega
  ·omega
 ·rw[List.getElem?_eq_none (by rw[dR];omega),List.getElem?_eq_none (by rw[dR];omega)]
end Go.Proofs.YtgmdpppljkmabaaGreat
