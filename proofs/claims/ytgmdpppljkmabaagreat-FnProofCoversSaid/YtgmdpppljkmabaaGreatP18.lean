/- Parts of the proof: walks of functions and plain laws. -/
import Derived.Test.YtgmdpppljkmabaaGreatP0
import Derived.Test.YtgmdpppljkmabaaGreatP16
import Derived.Lib.AppendZerosOnto
import Derived.Test.YtgmdpppljkmabaaGreatP1
import Derived.Test.YtgmdpppljkmabaaGreatP17
import Derived.Test.YtgmdpppljkmabaaGreatP10
set_option maxRecDepth 100000
set_option maxHeartbeats 16000000
namespace Go.Proofs.YtgmdpppljkmabaaGreat
open Go Go.RowKit
theorem Cf (n:Nat) (w:World) (h1:0<n) (h2:n<=100000):
  Calls Tryz.prog 181 #[.slice none 0 0,.int .i64 n] w fun e w'=>∃v,e=.returned v/\Own w' w.heap.size v []/\Below w.heap.size w w':=by
 obtain⟨i0,hi,gx,dh,dt⟩:=info_parts jt;obtain⟨G,hG⟩:∃G,G=grownCap w n 0 3:=⟨_,rfl⟩
 have hGn:n<=G:=by rw[hG];exact grownCap_ge w _ _ _
 have hGm:G<=maxLen:=by rw[hG];exact grownCap_le_maxLen w n 0 3 (by unfold maxLen;omega)
 have hrz:∀ty,(Builtin.append_ #[25,3] ty #[.slice none 0 0,.int .i64 (n:Int)]).run Tryz.prog w=.ok (.slice (some ⟨w.heap.size,0,none⟩) n G) (w.drew.alloc (.cells (#[]++Builtin.zeroCells (Value.int .i64 0).cells n++Builtin.zeroCells (Value.int .i64 0).cells (G-n)) 3)):=fun ty=>by
  have h:=Lib.run_append_grow_zeros w 25 3 ty 3 i0 (.int .i64 0) .i64 .i64 Tryz.underlying25 Tryz.underlying3 hi gx none 0 0 [] (run_firstCells_none w.drew i0.size 0 0 0) n h1 (by omega) (by omega) (by omega) (by rw[dt];omega)
   (by have:=growslice_fits (need:=0+n) (old:=0) (bytes:=i0.bytes) (by omega) (by rw[dt];omega);exact this)
  rw[Nat.zero_add,<- hG]at h;exact h
 have ab7:G<=9223372036854775807:=by unfold maxLen at hGm;omega
 have HG:=zh hGm;have VQ:=zh hrz;have e0:¬((n:Int)<0):=by omega
 have e2:IntKind.i64.wrap ((0:Int)-0)=0:=aH _ (by omega) (by omega)
 have e3:IntKind.i64.wrap ((n:Int)-0)=(n:Int):=by rw[aH _ (by omega) (by omega)];omega
 have e4:(n:Int)>0:=by omega
 clear hG hrz hGm hi gx dh dt
 go_enter Tryz.func181,Tryz.ntmps181
 go_wp2_with (at_builtin;refine Lib.wpList_append_run _ rfl _ _ _ _ rfl _ _ rfl rfl _ _ (VQ.out _) ?_)
 all_goals
  go_ret;refine⟨_,rfl,⟨by simp,.inr ⟨w.heap.size,G,(Builtin.zeroCells #[Value.int .i64 0] n++Builtin.zeroCells #[Value.int .i64 0] (G-n)),rfl,Nat.le_refl _,?_,Nat.zero_le _,HG.out,?_,by simp⟩⟩,?_⟩
  ·show(w.drew.heap.push _)[w.heap.size]?=_
   rw[show w.heap.size=w.drew.heap.size from rfl,Array.getElem?_push_size]
  ·simp[Builtin.zeroCells]
   omega
  ·exact(Below.refl _ _).drew.alloc (by simp) _
theorem Cg (g q:Nat) (v1 v2:Value) (xs ys:List Int) (w:World) (IK:w.cell? ⟨g,0,none⟩=some v1) (eD:w.cell? ⟨g,1,none⟩=some v2) (h1:aO w v1 xs) (h2:aO w v2 ys) (hx:xs.length<=1000) (hy:ys.length<=1000) (h0:0<xs.length+ys.length) (hq:2<=q):
  Calls Tryz.prog 117 #[.slice (some ⟨g,0,none⟩) 2 q] w fun e w'=>∃u,e=.returned u/\Own w' w.heap.size u (xs++ys)/\Below w.heap.size w w':=by
 have Nc:=zh h1;have Nd:=zh h2;have p0:=ae IK;have p1:=ae eD;have Mr:=zh p0;have NW:=zh p1;obtain⟨A1,c1,rfl,-,-,-⟩:=h1;obtain⟨A2,c2,rfl,-,-,-⟩:=h2;obtain⟨a,ha⟩:∃a,xs.length=a:=⟨_,rfl⟩
 obtain⟨b,hb⟩:∃b,ys.length=b:=⟨_,rfl⟩
 rw[ha]at Mr hx h0;rw[hb]at NW hy h0;have Ha:=zh ha;have Hb:=zh hb;have CI:ab w w:=aa _
 have ea:IntKind.i64.wrap ((0:Int)+(a:Int))=(a:Int):=by rw[aH _ (by omega) (by omega)];omega
 have eb:IntKind.i64.wrap ((a:Int)+(b:Int))=((a+b:Nat):Int):=by rw[aH _ (by omega) (by omega)];omega
 clear ha hb p0 p1 IK eD
 go_enter Tryz.func117,Tryz.ntmps117
 go_wp2
 go_loopw [3,11] (fun s i wr=>∃k:Nat,i=.int .i64 k/\w=wr/\((k=0/\s=.int .i64 0)\/(k=1/\s=.int .i64 (a:Int))\/(k=2/\s=.int .i64 ((a+b:Nat):Int)))) (fun _ i _=>2-(intOf i).toNat)
 case atStart=>exact⟨0,rfl,rfl,.inl ⟨rfl,rfl⟩⟩
 case round=>
  obtain⟨k,rfl,rfl,hk⟩:=hrel;rcases hk with⟨rfl,rfl⟩ | ⟨rfl,rfl⟩ | ⟨rfl,rfl⟩
  ·have p0:=Mr.out _ (aa _);go_wp2
   go_round
   case rel=>exact⟨1,by first | rfl | go_num,by first | rfl | trivial,.inr (.inl ⟨rfl,rfl⟩)⟩
   case measure=>simp[intOf]
  ·have p1:=NW.out _ (aa _);have n1:¬(((a+b:Nat):Int)<0):=by omega
   go_wp2
   go_round
   case rel=>exact⟨2,by first | rfl | go_num,by first | rfl | trivial,.inr (.inr ⟨rfl,rfl⟩)⟩
   case measure=>simp[intOf]
  ·go_wp2_with fail;refine(Cf (a+b) _ h0 (by omega)).mono ?_;rintro e w1 ⟨u1,rfl,gR,aN⟩;obtain⟨A3,c3,rfl,-,-,-⟩:=id gR.ints;have vS:=zh gR;have gO:=zh aN;clear gR aN;go_wp2
   go_loopw [6,27] (fun s i wr=>∃(k:Nat) (ls:List Int),i=.int .i64 k/\Own wr w.heap.size s ls/\Below w.heap.size w wr/\((k=0/\ls=[])\/(k=1/\ls=xs)\/(k=2/\ls=xs++ys))) (fun _ i _=>2-(intOf i).toNat)
   case atStart=>exact⟨0,[],rfl,vS.out,gO.out,.inl ⟨rfl,rfl⟩⟩
   case round=>
    obtain⟨k,ls,rfl,ho,yj,hk⟩:=hrel;obtain⟨AU,cU,rfl,-,-,-⟩:=id ho.ints;have Ho:=zh ho;have Ae:=zh yj;clear ho yj;rcases hk with⟨rfl,rfl⟩ | ⟨rfl,rfl⟩ | ⟨rfl,rfl⟩
    ·have p0:=Mr.out _ Ae.out;have Hi:=zh (Nc.out.keep (ab.below Ae.out));rw[Ha.out]at Hi
     have Hl:Hid (([]:List Int).length+xs.length<=17592186044416):=by show _<=_;have:=Ha.out;simp;omega
     go_wp2_with (at_builtin;refine fY (base:=w.heap.size) rfl _ _ rfl rfl Ho.out rfl Hi.out Hl.out Ae.out.size ?_;intro v' w3 T ex rO Ng;have bB:=aX.since Ae.out rO (fun q hq=>(World.ownsRow.lt Ho.out q (Option.mem_toList.1 hq)).1);obtain⟨V,mV,cV,rfl⟩:=gm.one ex;have jy:=zh ex;have FL:=zh bB;clear ex rO Ng bB)
     go_roundw
     case rel=>exact⟨1,_,by first | rfl | go_num,jy.out.1,FL.out,.inr (.inl ⟨rfl,rfl⟩)⟩
     case measure=>simp[intOf]
    ·have p1:=NW.out _ Ae.out;have Hi:=zh (Nd.out.keep (ab.below Ae.out));rw[Hb.out]at Hi
     have Hl:Hid (ls.length+ys.length<=17592186044416):=by show _<=_;have:=Ha.out;have:=Hb.out;omega
     go_wp2_with (at_builtin;refine fY (base:=w.heap.size) rfl _ _ rfl rfl Ho.out rfl Hi.out Hl.out Ae.out.size ?_;intro v' w3 T ex rO Ng;have bB:=aX.since Ae.out rO (fun q hq=>(World.ownsRow.lt Ho.out q (Option.mem_toList.1 hq)).1);obtain⟨V,mV,cV,rfl⟩:=gm.one ex;have jy:=zh ex;have FL:=zh bB;clear ex rO Ng bB)
     go_roundw
     case rel=>exact⟨2,_,by first | rfl | go_num,jy.out.1,FL.out,.inr (.inr ⟨rfl,rfl⟩)⟩
     case measure=>simp[intOf]
    ·go_wp2;go_ret;exact⟨_,rfl,Ho.out,Ae.out⟩
def kO (n:aj) (v i j:Nat):List (Int×Int):=if j<v then n.ends.getD j [] else if j=v then (n.ends.getD j []).take i else []
def jE (n:aj) (v i:Nat):List (List (Int×Int)):=(List.range n.ends.length).map (fun j=>fK n.ends.length (kO n v i j))++(List.range n.ends.length).map (kO n v i)
def sU (n:aj) (v i:Nat):aj:=⟨jE n v i,[],n.acn++n.acn⟩
theorem nB (n:aj) (v i:Nat):(jE n v i).length=n.ends.length+n.ends.length:=by simp[jE]
theorem q9 {n:aj} {v i j:Nat} (h:j<n.ends.length):(jE n v i)[j]?=some (fK n.ends.length (kO n v i j)):=by
 unfold jE;rw[List.getElem?_append_left (by simpa using h),List.getElem?_map,List.getElem?_range h];rfl
theorem nW {n:aj} {v i j:Nat} (h:j<n.ends.length):(jE n v i)[j+n.ends.length]?=some (kO n v i j):=by
 unfold jE;rw[List.getElem?_append_right (by simp),List.length_map,List.length_range,Nat.add_sub_cancel,List.getElem?_map,List.getElem?_range h];rfl
theorem rV (n:aj) (v i:Nat):kO n v i v=(n.ends.getD v []).take i:=by unfold kO;rw[if_neg (by omega),if_pos rfl]
theorem FT {n:aj} {v i j k:Nat} (h:j≠v):kO n v i j=kO n v k j:=by unfold kO;rw[if_neg h,if_neg h]
theorem zm (k:Nat) (es:List (Int×Int)) (e:Int×Int):fK k (es++[e])=fK k es++[(e.1+(k:Int),e.2)]:=by simp[fK]
theorem Ih {n:aj} {v i:Nat} {e:Int×Int} {es:List (Int×Int)} (bM:n.ends[v]?=some es) (he:es[i]?=some e):
  ((jE n v i).set v (fK n.ends.length (kO n v i v)++[(e.1+(n.ends.length:Int),e.2)])).set (v+n.ends.length) (kO n v i v++[e])=jE n v (i+1):=by
 have hv:=al bM
 have hr:kO n v (i+1) v=kO n v i v++[e]:=by
  rw[rV,rV,ao bM,List.take_add_one,he];rfl
 refine List.ext_getElem? fun j=>?_
 by_cases hj:j<n.ends.length
 ·rw[List.getElem?_set_ne (by omega),q9 hj]
  by_cases e1:v=j
  ·subst e1
   rw[List.getElem?_set_self (by rw[nB];omega),hr,zm]
  ·rw[List.getElem?_set_ne e1,q9 hj,FT (k:=i+1) (Ne.symm e1)]
 ·by_cases xm:j<n.ends.length+n.ends.length
  ·obtain⟨u,rfl⟩:∃u,j=u+n.ends.length:=⟨j-n.ends.length,by omega⟩
   have hu:u<n.ends.length:=by omega
   rw[nW hu]
   by_cases e1:v=u
   ·subst e1
    rw[List.getElem?_set_self (by rw[List.length_set,nB];omega),hr]
   ·rw[List.getElem?_set_ne (by omega),List.getElem?_set_ne (by omega),nW hu,FT (k:=i+1) (Ne.symm e1)]
  ·rw[List.getElem?_eq_none (by rw[List.length_set,List.length_set,nB];omega),List.getElem?_eq_none (by rw[nB];omega)]
theorem Ii {n:aj} {v:Nat} {es:List (Int×Int)} (bM:n.ends[v]?=some es):jE n v es.length=jE n (v+1) 0:=by
 have h:kO n v es.length=kO n (v+1) 0:=by
  funext j
  unfold kO
  by_cases h1:j<v
  ·rw[if_pos h1,if_pos (by omega)]
  ·rw[if_neg h1]
   by_cases h2:j=v
   ·subst h2;rw[if_pos rfl,if_pos (by omega),ao bM,List.take_length]
   ·rw[if_neg h2,if_neg (by omega)]
    split <;> simp
 unfold jE;rw[h]
theorem EL (n:aj):jE n 0 0=List.replicate (n.ends.length+n.ends.length) []:=by
 have h:kO n 0 0=fun _=>[]:=by
  funext j
  unfold kO;rw[if_neg (by omega)]
  split <;> simp
 unfold jE;rw[h,List.eq_replicate_iff];refine⟨by simp,fun b hb=>?_⟩
 rcases List.mem_append.1 hb with hb | hb <;> (obtain⟨j,-,rfl⟩:=List.mem_map.1 hb;simp[fK])
theorem Lh (n:aj):jE n n.ends.length 0=BB n:=by
 have h:∀j,j<n.ends.length->kO n n.ends.length 0 j=n.ends.getD j []:=fun j hj=>by unfold kO;rw[if_pos hj]
 unfold BB;refine List.ext_getElem? fun j=>?_
 by_cases hj:j<n.ends.length
 ·rw[q9 hj,h j hj,List.getElem?_append_left (by simpa using hj),List.getElem?_map,List.getElem?_eq_getElem hj,zDd,List.getElem?_eq_getElem hj];rfl
 ·by_cases xm:j<n.ends.length+n.ends.length
  ·obtain⟨u,rfl⟩:∃u,j=u+n.ends.length:=⟨j-n.ends.length,by omega⟩
   have hu:u<n.ends.length:=by omega
   rw[nW hu,h u hu,List.getElem?_append_right (by simp),List.length_map,Nat.add_sub_cancel,List.getElem?_eq_getElem hu,zDd,List.getElem?_eq_getElem hu];rfl
  ·rw[List.getElem?_eq_none (by rw[nB];omega),List.getElem?_eq_none (by simp;omega)]
def zn (W:World) (x y u:Value):Prop:=∃b,u=.slice (some ⟨b,0,none⟩) 2 2/\W.cell? ⟨b,0,none⟩=some x/\W.cell? ⟨b,1,none⟩=some y
theorem zn.keep {W W':World} {x y u:Value} (h:zn W x y u) (hs:ab W W'):zn W' x y u:=by
 obtain⟨b,h1,h2,h3⟩:=h;exact⟨b,h1,bc hs.below h2,bc hs.below h3⟩
theorem sV (ve vi vn:Value) (n:aj) (w:World) (h:aC w ve vi vn n) (hl:n.ids.length<=17592186044416):
  Calls Tryz.prog 45 #[.agg #[ve,vi,vn]] w fun e w'=>∃ue ui un b,e=.returned (.tuple #[.agg #[ue,ui,un],.bool b])/\b=(ak n&&ak (fL n))/\(b=true->∃S,ar w' w.heap.size ue ui un (fL n) S)/\(b=false->ue=.slice none 0 0/\ui=.slice none 0 0/\un=.slice none 0 0)/\Below w.heap.size w w':=by
 have Hl:=zh hl;clear hl
 obtain⟨w0,A,c,A2,c2,A3,c3,rfl,rfl,rfl,fg,hm,f8,fP,HA,bS,aT,H,dP,d9,dV⟩:=zB h;clear h
 obtain⟨wa,jC⟩:∃wa,wa=w0.alloc (.cells #[.slice none 0 0,.slice none 0 0,.slice none 0 0] 27):=⟨_,rfl⟩
 have ll:ab w0 wa:=by rw[jC];exact ad _ (aa _)
 have kY:w0.heap.size=w.heap.size+1:=by rw[bS.out];simp
 have zH:Hid (wa.heap.size=w.heap.size+1+1):=by show _=_;rw[jC,<- kY];simp
 have CQ:Hid (∀X,ab wa X->aS X (w.heap.size+1) (.slice none 0 0) (.slice none 0 0) (.slice none 0 0)):=fun X hX=>by
  refine aS.since (W:=wa) ?_ hX;rw[jC,<- kY];show(w0.heap.push _)[w0.heap.size]?=_
  rw[Array.getElem?_push_size]
 have yU:=ag dP ll;have DX:=ag d9 ll;have DY:=ag dV ll;have SE:=zh (show ∀X,ab wa X->lx X (.slice A n.ends.length c) n.ends from fun X hX=>(H.out.keep (ll.after hX).below).es)
 have QK:=zh (show ∀X,ab wa X->aO X (.slice A3 n.acn.length c3) n.acn from fun X hX=>by have:=H.out.keep (ll.after hX).below;exact this.2.2)
 have Bx:=zh jC;have vT:=zh ll;have gO:Hid (Below w.heap.size w wa):=Below.trans aT.out (ll.below.mono aT.out.size);obtain⟨q,hq⟩:∃q,ak n=q:=⟨_,rfl⟩
 have Hq:=zh hq;clear jC ll kY dP d9 dV hq
 go_enter Tryz.func45,Tryz.ntmps45
 go_upto_region 1 with(fail);rw[<- bS.out,<- Bx.out];have hs:ab wa wa:=aa _;go_wp2_with fail;refine(ec _ _ _ n wa (H.out.keep vT.out.below) Hl.out).mono ?_;rw[Hq.out];rintro e W1 ⟨rfl,aN⟩;have dr:ab wa W1:=aN;clear aN hs;cases q
 ·have dJ:=CQ.out W1 dr;obtain⟨e0,e1,e2,f0,f1,f2⟩:=dJ.box.cells;have dM:=zh dr;clear dJ yU DX DY dr;go_wp2;refine bodyPost_ret (v:=.tuple #[.agg #[.slice none 0 0,.slice none 0 0,.slice none 0 0],.bool false]) (by simp[results,Tryz.results45,go_sem, *]) rfl ?_;have hk:Below w.heap.size w W1:=Below.trans gO.out (dM.out.below.mono gO.out.size)
  exact⟨_,_,_,false,rfl,by rw[Hq.out];rfl,(fun h=>by cases h),(fun _=>⟨rfl,rfl,rfl⟩),((hk.setCell (by simp) _).setCell (by simp) _).setCell (by simp) _⟩
 have pj:=(aB Hq.out).2;have jU:=(aB Hq.out).1;have yT:Hid (∀(k:Nat) (es:List (Int×Int)),n.ends[k]?=some es->es.length<=6/\∀e∈es,0<=e.1/\e.1<n.ends.length):=fun (k:Nat) (es:List (Int×Int)) he=>bV Hq.out he
 have d_:n.acn.length=n.ends.length:=by
  have h3:=(gW.1 Hq.out).2.2.1;unfold fe at h3;simp only[Bool.and_eq_true,beq_iff_eq]at h3;omega
 obtain⟨m,hm⟩:∃m,m=n.ends.length+n.ends.length:=⟨_,rfl⟩
 have Hm:=zh hm;have pO:=zh d_
 have m1:IntKind.i64.wrap (2*(n.ends.length:Int))=(m:Int):=by rw[hm,aH _ (by omega) (by omega)];omega
 have mk1:=r9 m (by omega);have ab8:m<=80:=by omega
 have Wr:Hid (0<n.acn.length+n.acn.length/\n.acn.length<=1000):=by show _/\_;omega
 clear hm d_;go_upto_region 4 with(fail);refine wK (w0:=wa) [fun V W=>V 0=.int .i64 n.ends.length,fun V W=>V 1=.int .i64 m,fun V W=>j4 W wa.heap.size m (V 2),fun V W=>V 3=.pointer (some ⟨w.heap.size,2,none⟩),fun V W=>V 4=.slice A3 n.acn.length c3,fun V W=>V 5=.pointer (some ⟨w.heap.size,2,none⟩),fun V W=>V 6=.slice A3 n.acn.length c3,fun V W=>zn W (.slice A3 n.acn.length c3) (.slice A3 n.acn.length c3) (V 7),fun V W=>yX W wa.heap.size (n.acn++n.acn) (V 8),fun V W=>V 9=.agg #[V 2,.slice none 0 0,V 8],fun V W=>mg W wa.heap.size (V 10)] ?_ ?_ 11 (by kernel_rfl) (by kernel_rfl) (by kernel_rfl) (dr) ?_ ?_
 ·intro r hr V W W' h hs;simp only[List.mem_cons,List.not_mem_nil,or_false]at hr;rcases hr with rfl | rfl | rfl | rfl | rfl | rfl | rfl | rfl | rfl | rfl | rfl
  ·exact h
  ·exact h
  ·exact(h.keep hs)
  ·exact h
  ·exact h
  ·exact h
  ·exact h
  ·exact(h.keep hs)
  ·exact(h.keep hs)
  ·exact(h)
  ·exact(h.keep hs)
 ·intro j r hj V V' W h1 h2 h
  match j,hj with
  | 0,hj=>
   obtain rfl:=Option.some.inj hj
   have h3:V 0=.int .i64 n.ends.length:=h;show V' 0=.int .i64 n.ends.length
   rw[<- h1];exact h3
  | 1,hj=>
   obtain rfl:=Option.some.inj hj
   have h3:V 1=.int .i64 m:=h;show V' 1=.int .i64 m
   rw[<- h1];exact h3
  | 2,hj=>
   obtain rfl:=Option.some.inj hj
   have h3:j4 W wa.heap.size m (V 2):=h;show j4 W wa.heap.size m (V' 2)
   rw[<- h1];exact h3
  | 3,hj=>
   obtain rfl:=Option.some.inj hj
   have h3:V 3=.pointer (some ⟨w.heap.size,2,none⟩):=h;show V' 3=.pointer (some ⟨w.heap.size,2,none⟩)
   rw[<- h1];exact h3
  | 4,hj=>
   obtain rfl:=Option.some.inj hj
   have h3:V 4=.slice A3 n.acn.length c3:=h;show V' 4=.slice A3 n.acn.length c3
   rw[<- h1];exact h3
  | 5,hj=>
   obtain rfl:=Option.some.inj hj
   have h3:V 5=.pointer (some ⟨w.heap.size,2,none⟩):=h;show V' 5=.pointer (some ⟨w.heap.size,2,none⟩)
   rw[<- h1];exact h3
  | 6,hj=>
   obtain rfl:=Option.some.inj hj
   have h3:V 6=.slice A3 n.acn.length c3:=h;show V' 6=.slice A3 n.acn.length c3
   rw[<- h1];exact h3
  | 7,hj=>
   obtain rfl:=Option.some.inj hj
   have h3:zn W (.slice A3 n.acn.length c3) (.slice A3 n.acn.length c3) (V 7):=h;show zn W (.slice A3 n.acn.length c3) (.slice A3 n.acn.length c3) (V' 7)
   rw[<- h1];exact h3
  | 8,hj=>
   obtain rfl:=Option.some.inj hj
   have h3:yX W wa.heap.size (n.acn++n.acn) (V 8):=h;show yX W wa.heap.size (n.acn++n.acn) (V' 8)
   rw[<- h1];exact h3
  | 9,hj=>
   obtain rfl:=Option.some.inj hj
   have h22:=h2 _ rfl 2 (by decide +kernel);have h28:=h2 _ rfl 8 (by decide +kernel);have h3:V 9=.agg #[V 2,.slice none 0 0,V 8]:=h;show V' 9=.agg #[V' 2,.slice none 0 0,V' 8]
   rw[<- h1,<- h22,<- h28];exact h3
  | 10,hj=>
   obtain rfl:=Option.some.inj hj
   have h3:mg W wa.heap.size (V 10):=h;show mg W wa.heap.size (V' 10)
   rw[<- h1];exact h3
  | j+11,hj=>simp at hj
 ·intro i o hi ho V W hW hd
  match i,ho with
  | 0,ho=>
   cases ho;clear hd hi;refine⟨rfl,?_⟩;simp only[ap,zR11,zG,zA]
   refine fW (u:=.int .i64 n.ends.length) (W':=W) (by go_simp) ⟨aa _,?_⟩;exact eU V 0 _
  | 1,ho=>
   cases ho;have e0:V 0=.int .i64 n.ends.length:=hd 0 (by decide +kernel);clear hd hi;refine⟨rfl,?_⟩;simp only[ap,zR11,zG,zA]
   refine fW (u:=.int .i64 m) (W':=W) (by go_simp) ⟨aa _,?_⟩;exact eU V 1 _
  | 2,ho=>
   cases ho;have e1:V 1=.int .i64 m:=hd 1 (by decide +kernel);clear hd hi;refine⟨rfl,?_⟩;simp only[ap,zR11,zG,zA]
   refine fW (u:=.slice (some ⟨W.heap.size,0,none⟩) m m) (W':=W.alloc (.cells (Array.replicate m (Value.slice none 0 0)) 81)) (by go_simp) ⟨ad _ (aa _),?_⟩;show j4 _ _ _ (CT V 2 _ 2)
   rw[eU];exact⟨_,rfl,hW.below.size,jw.mono (o6 W _ (by omega)) hW.below.size⟩
  | 3,ho=>
   cases ho;clear hd hi;refine⟨rfl,?_⟩;simp only[ap,zR11,zG,zA]
   refine fW (u:=.pointer (some ⟨w.heap.size,2,none⟩)) (W':=W) (by go_simp) ⟨aa _,?_⟩;exact eU V 3 _
  | 4,ho=>
   cases ho;have e3:V 3=.pointer (some ⟨w.heap.size,2,none⟩):=hd 3 (by decide +kernel);clear hd hi;refine⟨rfl,?_⟩;simp only[ap,zR11,zG,zA]
   refine fW (u:=.slice A3 n.acn.length c3) (W':=W) (by go_simp) ⟨aa _,?_⟩;exact eU V 4 _
  | 5,ho=>
   cases ho;clear hd hi;refine⟨rfl,?_⟩;simp only[ap,zR11,zG,zA]
   refine fW (u:=.pointer (some ⟨w.heap.size,2,none⟩)) (W':=W) (by go_simp) ⟨aa _,?_⟩;exact eU V 5 _
  | 6,ho=>
   cases ho;have e5:V 5=.pointer (some ⟨w.heap.size,2,none⟩):=hd 5 (by decide +kernel);clear hd hi;refine⟨rfl,?_⟩;simp only[ap,zR11,zG,zA]
   refine fW (u:=.slice A3 n.acn.length c3) (W':=W) (by go_simp) ⟨aa _,?_⟩;exact eU V 6 _
  | 7,ho=>
   cases ho;have e4:V 4=.slice A3 n.acn.length c3:=hd 4 (by decide +kernel);have e6:V 6=.slice A3 n.acn.length c3:=hd 6 (by decide +kernel);clear hd hi;refine⟨rfl,?_⟩;simp only[ap,zR11,zG,zA]
   refine fW (u:=.slice (some ⟨W.heap.size,0,none⟩) 2 2) (W':=W.alloc (.cells #[.slice A3 n.acn.length c3,.slice A3 n.acn.length c3] 25)) (by go_simp) ⟨ad _ (aa _),?_⟩;show zn _ _ _ (CT V 7 _ 7)
   rw[eU];exact⟨_,rfl,by simp,by simp⟩
  | 8,ho=>
   cases ho;have e7:zn W (.slice A3 n.acn.length c3) (.slice A3 n.acn.length c3) (V 7):=hd 7 (by decide +kernel);clear hd hi;refine⟨rfl,?_⟩;simp only[ap,zR11,zG,zA]
   unfold xR;obtain⟨b7,h7,h71,h72⟩:=e7
   go_simp
   (with_reducible refine(Cg b7 2 _ _ n.acn n.acn W h71 h72 (QK.out W hW) (QK.out W hW) Wr.out.2 Wr.out.2 Wr.out.1 (Nat.le_refl _)).mono ?_)
   rintro e W1 ⟨u,rfl,ho,hb⟩;refine⟨_,rfl,hb,?_⟩;show yX _ _ _ (CT V 8 _ 8)
   rw[eU];exact Own.mono ho hW.below.size
  | 9,ho=>
   cases ho;have e2:j4 W wa.heap.size m (V 2):=hd 2 (by decide +kernel);have e8:yX W wa.heap.size (n.acn++n.acn) (V 8):=hd 8 (by decide +kernel);clear hd hi;refine⟨rfl,?_⟩;simp only[ap,zR11,zG,zA]
   obtain⟨g,h3,-⟩:=e2;obtain⟨B6,d6,h6,-⟩:=Own.ints e8;clear e8
   refine fW (u:=.agg #[V 2,.slice none 0 0,V 8]) (W':=W) (by rw[h3,h6];go_simp) ⟨aa _,?_⟩
   show CT V 9 _ 9=.agg #[CT V 9 _ 2,.slice none 0 0,CT V 9 _ 8]
   rw[eU,px V _ (show(2:Nat)≠9 by decide),px V _ (show(8:Nat)≠9 by decide)]
  | 10,ho=>
   cases ho;clear hd hi;refine⟨rfl,?_⟩;simp only[ap,zR11,zG,zA]
   refine fW (u:=.pointer (some ⟨W.heap.size,0,none⟩)) (W':=W.alloc (.cells #[.slice none 0 0,.slice none 0 0,.slice none 0 0] 27)) (by go_simp) ⟨ad _ (aa _),?_⟩;show mg _ _ (CT V 10 _ 10)
   rw[eU];exact mg.new _ hW.below.size
  | i+11,ho=>omega
 intro V W hW hV;have e0:V 0=.int .i64 n.ends.length:=hV 0 (by decide);have e1:V 1=.int .i64 m:=hV 1 (by decide);have e2:j4 W wa.heap.size m (V 2):=hV 2 (by decide);have e3:V 3=.pointer (some ⟨w.heap.size,2,none⟩):=hV 3 (by decide);have e4:V 4=.slice A3 n.acn.length c3:=hV 4 (by decide);have e5:V 5=.pointer (some ⟨w.heap.size,2,none⟩):=hV 5 (by decide);have e6:V 6=.slice A3 n.acn.length c3:=hV 6 (by decide);have e7:zn W (.slice A3 n.acn.length c3) (.slice A3 n.acn.length c3) (V 7):=hV 7 (by decide);have e8:yX W wa.heap.size (n.acn++n.acn) (V 8):=hV 8 (by decide);have e9:V 9=.agg #[V 2,.slice none 0 0,V 8]:=hV 9 (by decide);have zS:mg W wa.heap.size (V 10):=hV 10 (by decide);clear hV;simp only[ap,zR11,zG]
 (try simp only[zA])
 simp only[List.drop_succ_cons,List.drop_zero];obtain⟨g,h3,MY,hge⟩:=e2;obtain⟨ob,Te,rN,dT⟩:=zS;obtain⟨BN,dN,h9,-⟩:=id (Own.ints e8);rw[h3,h9]at e9
 have pu:Hid (Own W wa.heap.size (.slice BN (n.acn++n.acn).length dN) (n.acn++n.acn)):=by show Own _ _ _ _;rw[<- h9];exact e8
 have Ws:=zh hge;have FB:=zh dT;obtain⟨c0,c1,wI,f0,f1,f2⟩:=dT.box.cells;obtain⟨i2,rq⟩:∃z,(n.acn++n.acn).length=z:=⟨_,rfl⟩
 rw[rq]at h9 e9 pu;rw[e0,e1,h3,e3,e4,e5,e6,h9,e9,Te];obtain⟨v7,hv7⟩:∃z,V 7=z:=⟨_,rfl⟩
 obtain⟨b7,sA,-⟩:=e7;rw[sA];have V0:=zh rq;clear e0 e1 e3 e4 e5 e6 e8 e9 h3 h9 Te hge dT MY rq hv7 sA V;go_upto_region 5 with(fail);obtain⟨w4,gU⟩:∃w4,w4=((W.setCell ⟨ob,0,none⟩ (.slice (some ⟨g,0,none⟩) m m)).setCell ⟨ob,1,none⟩ (.slice none 0 0)).setCell ⟨ob,2,none⟩ (.slice BN i2 dN):=⟨_,rfl⟩
 rw[<- gU];obtain⟨bo,rfl⟩:∃bo,bo=ob:=⟨_,rfl⟩
 obtain⟨base,gY⟩:∃base,base=wa.heap.size:=⟨_,rfl⟩
 rw[<- gY]at rN pu Ws
 have GF:Hid (aS w4 bo (.slice (some ⟨g,0,none⟩) m m) (.slice none 0 0) (.slice BN i2 dN)):=by show aS _ _ _ _ _;rw[gU];exact((FB.out.acF _).acI _).acJ _
 have O9:Hid (ab wa w4):=by show ab _ _;rw[gU];exact(((hW.setCell (by rw[<- gY];exact rN) _).setCell (by rw[<- gY];exact rN) _).setCell (by rw[<- gY];exact rN) _)
 have qP:aX [bo] W w4:=by rw[gU];exact((((aX.refl _ _).setCell (.inl (by simp)) _).setCell (.inl (by simp)) _).setCell (.inl (by simp)) _)
 have pw:=qN pu.out FB.out;have Wt:=Na pu.out Ws.out;have RA:=Kc FB.out Ws.out
 have GV:Hid (∃S,ar w4 base (.slice (some ⟨g,0,none⟩) m m) (.slice none 0 0) (.slice BN i2 dN) (sU n 0 0) S/\bo∉S):=by
  show ∃S,_
  have h2:Own w4 base (.slice BN i2 dN) (n.acn++n.acn):=aG pu.out (fun j hj=>qP.block j (World.ownsRow.lt pu.out j (by simpa using hj)).2 (fun e=>pw (by simp at e;subst e;simpa using hj)))
  have h3:=jw.only Ws.out qP (fun j hj e=>RA (by simp at hj e;omega))
  have h4:=rM h3 (bU w4 base) h2 (fun j hj=>by simp[Value.ownBlock]) (fun j hj=>by simp at hj;subst hj;exact Wt) (fun j hj=>by simp[Value.ownBlock]at hj)
  have e4:sU n 0 0=⟨List.replicate m [],[],n.acn++n.acn⟩:=by unfold sU;rw[EL,Hm.out]
  rw[e4];refine⟨_,h4,fun hm=>?_⟩
  rcases List.mem_append.1 hm with hm | hm
  ·simp at hm;exact RA hm
  ·rcases List.mem_append.1 hm with hm | hm
   ·simp[Value.ownBlock]at hm
   ·exact pw (by simpa using hm)
 have Kd:=zh rN;have ms:=zh gY;clear gU qP pw Wt RA pu FB Ws c0 c1 wI f0 f1 f2 hW rN gY dr;have zI:=O9.out;go_wp2
 go_loopw [30] (fun i wr=>∃(k:Nat) (S:List Nat),k<=n.ends.length/\i=.int .i64 k/\ar wr base (.slice (some ⟨g,0,none⟩) m m) (.slice none 0 0) (.slice BN i2 dN) (sU n k 0) S/\bo∉S/\aS wr bo (.slice (some ⟨g,0,none⟩) m m) (.slice none 0 0) (.slice BN i2 dN)/\ab wa wr) (fun i _=>n.ends.length-(intOf i).toNat)
 case atStart=>obtain⟨S,hS,hSo⟩:=GV.out;exact⟨0,S,Nat.zero_le _,rfl,hS,hSo,GF.out,O9.out⟩
 case round=>
  obtain⟨v,S,hk,rfl,eH,By,dT,bG⟩:=hrel;have sJ:=zh eH;have D3:=zh By;have uJ:=zh dT;have le:=zh bG;clear zI eH By dT;obtain⟨wo,rfl⟩:∃z,z=wr:=⟨_,rfl⟩
  by_cases az:v<n.ends.length
  ·obtain⟨es,bM⟩:=aA n.ends v az;obtain⟨b,tY,cr,ur,gh,wj,eD,dm⟩:=fi (SE.out wa (aa _)) bM;cases gh;have q5:=ae eD wo bG;obtain⟨A9,y9,rfl,dh,dt,FK⟩:=dm;unfold maxLen at dt;have VE:=zh FK;have jZ:=zh bM;have IL:=(yT.out v es bM).1;have m3:IntKind.i64.wrap ((v:Int)+1)=(v:Int)+1:=aH _ (by omega) (by omega);obtain⟨J,hJ⟩:∃J,J=v+n.ends.length:=⟨_,rfl⟩
   have m5:IntKind.i64.wrap ((v:Int)+(n.ends.length:Int))=(J:Int):=by rw[aH _ (by omega) (by omega)];omega
   have hJm:J<m:=by have:=Hm.out;omega
   have hvm:v<m:=by have:=Hm.out;omega
   have HJ:=zh hJ;clear bM FK eD wj bG hJ;go_wp2;clear q5
   go_loopw [37] (fun i wr=>∃(j:Nat) (S:List Nat),j<=es.length/\i=.int .i64 j/\ar wr base (.slice (some ⟨g,0,none⟩) m m) (.slice none 0 0) (.slice BN i2 dN) (sU n v j) S/\bo∉S/\aS wr bo (.slice (some ⟨g,0,none⟩) m m) (.slice none 0 0) (.slice BN i2 dN)/\ab wa wr) (fun i _=>es.length-(intOf i).toNat)
   case atStart=>exact⟨0,S,Nat.zero_le _,rfl,sJ.out,D3.out,uJ.out,le.out⟩
   case round=>
    obtain⟨i,S1,hj,rfl,Wu,Wv,w_,Li⟩:=hrel;obtain⟨wq,rfl⟩:∃z,z=wr:=⟨_,rfl⟩
    have RB:=zh Wu;have Ww:=zh Wv;have RC:=zh w_;have Wx:=zh Li;clear Wu Wv w_
    by_cases sH:i<es.length
    ·obtain⟨e,he⟩:=aA es i sH;have NX:=(yT.out v es jZ.out).2 e (List.mem_of_getElem? he);obtain⟨x,y⟩:=e;obtain⟨g1,o1,rfl,t1,t2⟩:=VE.out i _ he;have NK:=ae t1 wq Li;have NL:=ae t2 wq Li;have ab9:0<=x:=NX.1;have ab_:x<(n.ends.length:Int):=NX.2;have m2:IntKind.i64.wrap (x+(n.ends.length:Int))=x+(n.ends.length:Int):=aH _ (by omega) (by omega);have m4:IntKind.i64.wrap ((i:Int)+1)=(i:Int)+1:=aH _ (by omega) (by omega);have He:=zh he;obtain⟨w5,mG⟩:∃z,z=wq.alloc (.cells #[.int .i64 x,.int .i64 y] 83):=⟨_,rfl⟩
     obtain⟨eb,za⟩:∃z,z=wq.heap.size:=⟨_,rfl⟩
     have h5:ab wq w5:=by rw[mG];exact ad _ (aa _)
     have NY:Hid (w5.cell? ⟨eb,0,none⟩=some (.int .i64 x)/\w5.cell? ⟨eb,1,none⟩=some (.int .i64 y)):=by show _/\_;rw[mG,za];exact il wq _ _ _
     have Dt:=zh mG;have NC:=zh za;have tf:Hid (ab wa w5):=Wx.out.after h5;have Pq:=zh (RB.out.keep h5.below);have Bz:=Ww;have Wy:=zh (RC.out.since h5)
     have O_:Hid (eb∉S1):=fun hm=>by have:=(RB.out.range _ hm).2;omega
     obtain⟨xv,mC⟩:∃z,z=fK n.ends.length (kO n v i v):=⟨_,rfl⟩
     obtain⟨xu,H7⟩:∃z,z=kO n v i v:=⟨_,rfl⟩
     have Re:Hid ((sU n v i).ends[v]?=some xv):=by show(jE n v i)[v]?=_;rw[mC];exact q9 az
     have rh:xu.length<=6:=by rw[H7,rV,List.length_take,ao jZ.out];omega
     have VA:Hid (xv.length+1<=1000000):=by show _<=_;rw[mC];unfold fK;rw[List.length_map,<- H7];omega
     have zf:Hid (base<=w5.heap.size):=by show _<=_;rw[ms.out];exact tf.out.below.size
     have SX:=zh mC;have Rb:=zh H7;have uW:=zh rh
     have Lj:Hid (bo<w5.heap.size/\eb<w5.heap.size):=by
      refine show _/\_ from⟨Nat.lt_of_lt_of_le RC.out.box.lt h5.below.size,?_⟩
      rw[mG,za];simp
     clear mG za h5 t1 t2 he NX Li mC H7 rh;go_upto_region 11 with(fail);rw[<- Dt.out,<- NC.out];clear NK NL;obtain⟨u5,T5,Pr,Ps,KO,sQ,BW,wW,nt⟩:=Pq.out.acw Re.out;obtain⟨ri,rj,rfl,-,-,-⟩:=id KO.read;have KP:=zh KO;have vc:=zh nt;have KR:=zh BW;have KS:=zh wW;have KT:=zh sQ;have KU:=zh Pr;have VB:=zh Ps;have KV:Hid (bo∉T5):=fun h=>Bz.out (sQ _ h)
     have Wz:Hid (eb∉T5):=fun h=>O_.out (sQ _ h)
     have Pt:=zh (aY.cells Wy.out.box);clear BW wW sQ Pr Ps KO nt;refine ax (fun W=>W.cell? ⟨bo,0,none⟩=some (.slice (some ⟨g,0,none⟩) m m)/\W.cell? ⟨g,v,none⟩=some (.slice ri xv.length rj)/\W.cell? ⟨eb,0,none⟩=some (.int .i64 (x:Int))/\W.cell? ⟨eb,1,none⟩=some (.int .i64 (y:Int))) 17 [false,false,false,false,false,false,false,false,false,false,false,false,false,false,false,true,true] (by kernel_rfl) (by kernel_rfl) (show(World.drew w5).cell? ⟨bo,0,none⟩=some (.slice (some ⟨g,0,none⟩) m m)/\(World.drew w5).cell? ⟨g,v,none⟩=some (.slice ri xv.length rj)/\(World.drew w5).cell? ⟨eb,0,none⟩=some (.int .i64 (x:Int))/\(World.drew w5).cell? ⟨eb,1,none⟩=some (.int .i64 (y:Int))from⟨Pt.out.1,KU.out,NY.out.1,NY.out.2⟩) ?_
     simp only[er,dS,zT]
     iterate 15 (apply bs rfl;(intro W hW;(obtain⟨k0,k1,k2,k3⟩:=hW);go_simp;with_reducible rfl);simp only[zA])
     obtain⟨W,cS⟩:∃W,W=World.drew w5:=⟨_,rfl⟩
     rw[<- cS];have hW:=(show(World.drew w5).cell? ⟨bo,0,none⟩=some (.slice (some ⟨g,0,none⟩) m m)/\(World.drew w5).cell? ⟨g,v,none⟩=some (.slice ri xv.length rj)/\(World.drew w5).cell? ⟨eb,0,none⟩=some (.int .i64 (x:Int))/\(World.drew w5).cell? ⟨eb,1,none⟩=some (.int .i64 (y:Int))from⟨Pt.out.1,KU.out,NY.out.1,NY.out.2⟩);rw[<- cS]at hW;have eY:=zh cS;clear cS
     refine ch (v:=?_) (ob:=?_) rfl ?_ ?_ ?_;rotate_left 2
     (go_simp;first | with_reducible rfl | (refine⟨?_,?_⟩ <;> with_reducible rfl))
     exact⟨bc (ai _ _) hW.1,bc (ai _ _) hW.2.1,bc (ai _ _) hW.2.2.1,bc (ai _ _) hW.2.2.2⟩;intro w8 jk jD
     replace hW:=jD
     clear jD
     have uZ:Hid (w8=(World.drew w5).alloc (.cells #[.int .i64 ((x:Int)+(n.ends.length:Int)),.int .i64 (y:Int)] 83)):=by show _=_;rw[jk,eY.out]
     have iS:Hid (ab w5 w8):=by show ab _ _;rw[uZ.out];exact ad _ (ah (aa _))
     have pR:Hid (dU w8 base (.slice ri xv.length rj) xv T5):=gj.keep KP.out iS.out.below
     have u_:Hid (w8.cell? ⟨w5.heap.size,0,none⟩=some (.int .i64 ((x:Int)+(n.ends.length:Int)))/\w8.cell? ⟨w5.heap.size,1,none⟩=some (.int .i64 (y:Int))):=by show _/\_;rw[uZ.out];exact il (World.drew w5) _ _ _
     rw[show W.heap.size=w5.heap.size from by rw[eY.out];rfl]
     clear jk eY
     (try simp only[zA])
     refine df (fun Q' HQ=>?_)
     (refine im (base:=base) (v:=.slice ri xv.length rj) (xs:=xv) rfl _ _ rfl rfl pR.out w5.heap.size (((x:Int)+(n.ends.length:Int)),(y:Int)) rfl u_.out.1 u_.out.2 VA.out (Nat.le_trans zf.out iS.out.below.size) ?_);intro g9 zb w9 gP lu pD;have dL:=aX.acq lu;have nq:(Value.slice ri xv.length rj).ownBlock.toList=T5:=(KP.out.2).symm;have jU:(⟨bo,0,none⟩:Addr).block∉(Value.slice ri xv.length rj).ownBlock.toList:=(by rw[nq];exact KV.out);have mi:(⟨g,v,none⟩:Addr).block∉(Value.slice ri xv.length rj).ownBlock.toList:=(by rw[nq];exact KR.out);have Sv:(⟨eb,0,none⟩:Addr).block∉(Value.slice ri xv.length rj).ownBlock.toList:=(by rw[nq];exact Wz.out);have NS:(⟨eb,1,none⟩:Addr).block∉(Value.slice ri xv.length rj).ownBlock.toList:=(by rw[nq];exact Wz.out);have kJ:=dL.cell jU hW.1;have nO:=dL.cell mi hW.2.1;have NF:=dL.cell Sv hW.2.2.1;have WA:=dL.cell NS hW.2.2.2;have CN:=dL.fz mi hW.2.1 (bf iS.out.below KU.out VB.out);refine HQ _ _ ⟨kJ,nO,NF,WA⟩ ?_;have oz:=zh (k9 vc.out KP.out iS.out gP lu pD KT.out KS.out);clear gP lu pD jU mi Sv NS dL nq hW
     (try simp only[zA])
     simp only[bh]
     go_upto_region 12 with(fail);obtain⟨S7,dh,dt,oU⟩:=oz.out;obtain⟨w7,hw⟩:∃z,z=w9.setCell ⟨g,v,none⟩ (.slice (some ⟨g9,0,none⟩) (xv.length+1) zb):=⟨_,rfl⟩
     rw[<- hw]at dh oU ⊢;have YM:=zh dh;have HS7:=zh dt;have N3:=zh oU;have Ie:Hid (w7.cell? ⟨eb,0,none⟩=some (.int .i64 x)/\w7.cell? ⟨eb,1,none⟩=some (.int .i64 y)):=⟨N3.out.cell O_.out NY.out.1,N3.out.cell O_.out NY.out.2⟩;clear hw dh dt oU oz kJ nO CN NF WA;have WB:Hid (aS w7 bo (.slice (some ⟨g,0,none⟩) m m) (.slice none 0 0) (.slice BN i2 dN)):=(N3.out.block bo Lj.out.1 Bz.out).trans Wy.out
     have HN7:Hid (bo∉S7):=fun hm=>by
      rcases HS7.out _ hm with h1 | h1
      ·exact Bz.out h1
      ·have:=Lj.out.1;omega
     have HE7:Hid (eb∉S7):=fun hm=>by
      rcases HS7.out _ hm with h1 | h1
      ·exact O_.out h1
      ·have:=Lj.out.2;omega
     have HX7:Hid (((sU n v i).ends.set v (xv++[(x+(n.ends.length:Int),y)]))[J]?=some xu):=by
      show((jE n v i).set v _)[J]?=_
      rw[List.getElem?_set_ne (by have:=HJ.out;omega),HJ.out,Rb.out];exact nW az
     have HL7:Hid (xu.length+1<=1000000):=by show _<=_;have:=uW.out;omega
     have FU:Hid (Below base w5 w7):=N3.out.below base zf.out (fun j hj=>(Pq.out.range j hj).1)
     have WC:Hid (base<=w7.heap.size):=Nat.le_trans zf.out FU.out.size;obtain⟨u7,T7,O8,hf7,hR7,N_,WD,WE,Lk⟩:=YM.out.acw HX7.out;obtain⟨Ms,Mt,rfl,-,-,-⟩:=id hR7.read;have HR7:=zh hR7;have RD:=zh Lk;have aaJ:=zh WD;have aaK:=zh WE;have aaL:=zh N_;have Hu7:=zh O8;have Hf7:=zh hf7;have aaM:Hid (bo∉T7):=fun h=>HN7.out (N_ _ h)
     have WF:Hid (eb∉T7):=fun h=>HE7.out (N_ _ h)
     have Wb:=zh (aY.cells WB.out.box);clear WD WE N_ O8 hf7 hR7 Lk;refine ax (fun W=>W.cell? ⟨bo,0,none⟩=some (.slice (some ⟨g,0,none⟩) m m)/\W.cell? ⟨g,J,none⟩=some (.slice Ms xu.length Mt)/\W.cell? ⟨eb,0,none⟩=some (.int .i64 (x:Int))/\W.cell? ⟨eb,1,none⟩=some (.int .i64 (y:Int))) 15 [false,false,false,false,false,false,false,false,false,false,false,false,false,true,true] (by kernel_rfl) (by kernel_rfl) (show(World.drew w7).cell? ⟨bo,0,none⟩=some (.slice (some ⟨g,0,none⟩) m m)/\(World.drew w7).cell? ⟨g,J,none⟩=some (.slice Ms xu.length Mt)/\(World.drew w7).cell? ⟨eb,0,none⟩=some (.int .i64 (x:Int))/\(World.drew w7).cell? ⟨eb,1,none⟩=some (.int .i64 (y:Int))from⟨Wb.out.1,Hu7.out,Ie.out.1,Ie.out.2⟩) ?_
     simp only[er,dS,zT]
     iterate 13 (apply bs rfl;(intro W hW;(obtain⟨k0,k1,k2,k3⟩:=hW);go_simp;with_reducible rfl);simp only[zA])
     obtain⟨W,cS⟩:∃W,W=World.drew w7:=⟨_,rfl⟩
     rw[<- cS];have hW:=(show(World.drew w7).cell? ⟨bo,0,none⟩=some (.slice (some ⟨g,0,none⟩) m m)/\(World.drew w7).cell? ⟨g,J,none⟩=some (.slice Ms xu.length Mt)/\(World.drew w7).cell? ⟨eb,0,none⟩=some (.int .i64 (x:Int))/\(World.drew w7).cell? ⟨eb,1,none⟩=some (.int .i64 (y:Int))from⟨Wb.out.1,Hu7.out,Ie.out.1,Ie.out.2⟩);rw[<- cS]at hW;have eY:=zh cS;clear cS
     refine ch (v:=?_) (ob:=?_) rfl ?_ ?_ ?_;rotate_left 2
     (go_simp;first | with_reducible rfl | (refine⟨?_,?_⟩ <;> with_reducible rfl))
     exact⟨bc (ai _ _) hW.1,bc (ai _ _) hW.2.1,bc (ai _ _) hW.2.2.1,bc (ai _ _) hW.2.2.2⟩;intro w8 jk jD
     replace hW:=jD
     clear jD
     have uZ:Hid (w8=(World.drew w7).alloc (.cells #[.int .i64 (x:Int),.int .i64 (y:Int)] 83)):=by show _=_;rw[jk,eY.out]
     have iS:Hid (ab w7 w8):=by show ab _ _;rw[uZ.out];exact ad _ (ah (aa _))
     have pR:Hid (dU w8 base (.slice Ms xu.length Mt) xu T7):=gj.keep HR7.out iS.out.below
     have u_:Hid (w8.cell? ⟨w7.heap.size,0,none⟩=some (.int .i64 (x:Int))/\w8.cell? ⟨w7.heap.size,1,none⟩=some (.int .i64 (y:Int))):=by show _/\_;rw[uZ.out];exact il (World.drew w7) _ _ _
     rw[show W.heap.size=w7.heap.size from by rw[eY.out];rfl]
     clear jk eY
     (try simp only[zA])
     refine df (fun Q' HQ=>?_)
     (refine im (base:=base) (v:=.slice Ms xu.length Mt) (xs:=xu) rfl _ _ rfl rfl pR.out w7.heap.size ((x:Int),(y:Int)) rfl u_.out.1 u_.out.2 HL7.out (Nat.le_trans WC.out iS.out.below.size) ?_);intro g9 zb w9 gP lu pD;have dL:=aX.acq lu;have nq:(Value.slice Ms xu.length Mt).ownBlock.toList=T7:=(HR7.out.2).symm;have jU:(⟨bo,0,none⟩:Addr).block∉(Value.slice Ms xu.length Mt).ownBlock.toList:=(by rw[nq];exact aaM.out);have mi:(⟨g,J,none⟩:Addr).block∉(Value.slice Ms xu.length Mt).ownBlock.toList:=(by rw[nq];exact aaJ.out);have Sv:(⟨eb,0,none⟩:Addr).block∉(Value.slice Ms xu.length Mt).ownBlock.toList:=(by rw[nq];exact WF.out);have NS:(⟨eb,1,none⟩:Addr).block∉(Value.slice Ms xu.length Mt).ownBlock.toList:=(by rw[nq];exact WF.out);have kJ:=dL.cell jU hW.1;have nO:=dL.cell mi hW.2.1;have NF:=dL.cell Sv hW.2.2.1;have WA:=dL.cell NS hW.2.2.2;have CN:=dL.fz mi hW.2.1 (bf iS.out.below Hu7.out Hf7.out);refine HQ _ _ ⟨kJ,nO,NF,WA⟩ ?_;have oz:=zh (k9 RD.out HR7.out iS.out gP lu pD aaL.out aaK.out);clear gP lu pD jU mi Sv NS dL nq hW
     (try simp only[zA])
     simp only[bh]
     go_upto_region 13 with(fail);obtain⟨S9,dh,dt,oU⟩:=oz.out;obtain⟨zd,hw⟩:∃z,z=w9.setCell ⟨g,J,none⟩ (.slice (some ⟨g9,0,none⟩) (xu.length+1) zb):=⟨_,rfl⟩
     rw[<- hw]at dh oU ⊢
     have HO9:Hid (ar zd base (.slice (some ⟨g,0,none⟩) m m) (.slice none 0 0) (.slice BN i2 dN) (sU n v (i+1)) S9):=by
      show ar _ _ _ _ _ _ _
      have h1:=dh;have e9:=Ih jZ.out He.out;rw[<- Rb.out]at e9;rw[Rb.out,<- SX.out,<- Rb.out,<- HJ.out]at e9;unfold sU;rw[<- e9];exact h1
     have aaN:Hid (aS zd bo (.slice (some ⟨g,0,none⟩) m m) (.slice none 0 0) (.slice BN i2 dN)):=(oU.block bo (by have:=Lj.out.1;have:=FU.out.size;omega) HN7.out).trans WB.out
     have HN9:Hid (bo∉S9):=fun hm=>by
      rcases dt _ hm with h1 | h1
      ·exact HN7.out h1
      ·have:=Lj.out.1;have:=FU.out.size;omega
     have Dv:Hid (ab wa zd):=by
      have h1:Below base w7 zd:=oU.below base WC.out (fun j hj=>(YM.out.range j hj).1)
      have h2:Below wa.heap.size w5 zd:=by rw[<- ms.out];exact FU.out.trans h1
      exact Below.trans tf.out h2
     clear hw dh dt oU oz kJ nO CN NF WA;go_wp2;go_roundw
     case rel=>exact⟨i+1,S9,by omega,by first | rfl | go_num,HO9.out,HN9.out,aaN.out,Dv.out⟩
     case measure=>simp[intOf];omega
    ·obtain rfl:i=es.length:=by omega
     clear Li;go_wp2;go_roundw
     case rel=>exact⟨v+1,S1,by omega,by first | rfl | go_num,by have h9:=RB.out;unfold sU at h9 ⊢;rw[Ii jZ.out]at h9;exact h9,Ww.out,RC.out,Wx.out⟩
     case measure=>simp[intOf];omega
  ·obtain rfl:v=n.ends.length:=by omega
   obtain⟨k0,k1,k2,-,-,-⟩:=uJ.out.box.cells
   have hd:Hid (sU n n.ends.length 0=fL n):=by show _=_;unfold sU fL;rw[Lh]
   obtain⟨q2,Md⟩:∃z,ak (fL n)=z:=⟨_,rfl⟩
   have Pg:=zh Md;have YR:=sJ.out;rw[hd.out]at YR;have HNI:=zh YR;have Vi:(fL n).ends.length=m:=by rw[nR,Hm.out]
   have aaO:(fL n).acn.length=i2:=V0.out;have aaP:Hid (aC wo (.slice (some ⟨g,0,none⟩) m m) (.slice none 0 0) (.slice BN i2 dN) (fL n)):=YR.read;clear Md YR bG Vi aaO;go_wp2_with fail;refine(vt _ _ _ (fL n) wo aaP.out (Nat.zero_le _)).mono ?_;rw[Pg.out];rintro e w9 ⟨hor,kN⟩;have JH:ab wo w9:=kN;have HR:=CQ.out w9 (le.out.after JH);obtain⟨d0,d1,d2,f0,f1,f2⟩:=HR.box.cells;have Dv:=zh JH;have Hk:Hid (Below w.heap.size w w9):=Below.trans gO.out ((le.out.after JH).below.mono gO.out.size);clear HR kN JH k0 k1 k2 yU DX DY;rcases hor with⟨PN,rfl⟩ | ⟨PN,rfl⟩
   ·have U9:=zh PN;clear PN;go_wp2;refine bodyPost_ret (v:=.tuple #[.agg #[.slice (some ⟨g,0,none⟩) m m,.slice none 0 0,.slice BN i2 dN],.bool true]) (by simp[results,Tryz.results45,go_sem, *]) rfl ?_
    refine⟨_,_,_,true,rfl,by rw[Hq.out,Pg.out,U9.out];rfl,fun _=>⟨S,((HNI.out.keep Dv.out.below).aco (fun j hj=>?_)).mono (by rw[ms.out,zH.out];omega)⟩,(fun h=>by cases h),((Hk.out.setCell (by simp) _).setCell (by simp) _).setCell (by simp) _⟩
    have rz:=(HNI.out.range j hj).1;have xm:=ms.out;have hj3:=zH.out;rw[Below.heap_setCell _ _ _ j (by simp;omega),Below.heap_setCell _ _ _ j (by simp;omega),Below.heap_setCell _ _ _ j (by simp;omega)]
   ·have U9:=zh PN;clear PN;go_wp2;refine bodyPost_ret (v:=.tuple #[.agg #[.slice none 0 0,.slice none 0 0,.slice none 0 0],.bool false]) (by simp[results,Tryz.results45,go_sem, *]) rfl ?_
    exact⟨_,_,_,false,rfl,by rw[Hq.out,Pg.out,U9.out];rfl,(fun h=>by cases h),(fun _=>⟨rfl,rfl,rfl⟩),((Hk.out.setCell (by simp) _).setCell (by simp) _).setCell (by simp) _⟩
theorem vu {w:World} {g i:Nat} {v:Value} (h:w.cell? ⟨g,i,none⟩=some v) (k:Nat):(w.setCell ⟨g,i,none⟩ v).heap[k]?=w.heap[k]?:=by
 by_cases e:k=g
 ·subst e
  unfold World.cell? at h
  cases hb:w.heap[k]? with
  | none=>rw[show w.heap[(⟨k,i,none⟩:Addr).block]?=none from hb]at h;simp at h
  | some o=>
   rw[show w.heap[(⟨k,i,none⟩:Addr).block]?=some o from hb]at h
   cases o with
   | cells cs t fr=>
    have hc:cs[i]?=some v:=by simpa using h
    have he:cs.setIfInBounds i v=cs:=by
     apply Array.ext_getElem?
     intro j;rw[Array.getElem?_setIfInBounds]
     by_cases hj:i=j
     ·subst hj;rw[if_pos rfl,if_pos (Array.getElem?_eq_some_iff.1 hc).1,hc]
     ·rw[if_neg hj]
    simp[World.setCell,Array.getElem?_modify,hb,he]
   | _=>simp at h
 ·exact Below.heap_setCell _ _ _ _ e
theorem Oa {w:World} {g i:Nat} {v:Value} (h:w.cell? ⟨g,i,none⟩=some v) (p:Addr) (u:Value) (k:Nat):((w.setCell ⟨g,i,none⟩ v).setCell p u).heap[k]?=(w.setCell p u).heap[k]?:=by
 by_cases e:k=p.block
 ·have h1:=vu h p.block;subst e
  rw[show((w.setCell ⟨g,i,none⟩ v).setCell p u).heap[p.block]?=_ from by unfold World.setCell;exact Array.getElem?_modify ..]
  rw[show(w.setCell p u).heap[p.block]?=_ from by unfold World.setCell;exact Array.getElem?_modify ..]
  rw[if_pos rfl,if_pos rfl];exact congrArg _ h1
 ·rw[Below.heap_setCell _ _ _ _ e,Below.heap_setCell _ _ _ _ e,vu h]
theorem Ll {w:World} {g i j:Nat} (Sr:i≠j) (u:Value):(w.setCell ⟨g,i,none⟩ u).cell? ⟨g,j,none⟩=w.cell? ⟨g,j,none⟩:=by
 unfold World.cell? World.setCell
 simp only[Array.getElem?_modify,if_true]
 cases w.heap[g]? with
 | none=>rfl
 | some o=>cases o <;> simp[Sr]
theorem ar.setPort {w:World} {base g c n:Nat} {vi vn:Value} {N:aj} {S:List Nat} (h:ar w base (.slice (some ⟨g,0,none⟩) n c) vi vn N S) {k:Nat} {es:List (Int×Int)} (hx:N.ends[k]?=some es) (hj:0<es.length):
  ∃gr cr,w.cell? ⟨g,k,none⟩=some (.slice (some ⟨gr,0,none⟩) es.length cr)/\gr∈S/\w.frozen? ⟨gr,0,none⟩=false/\w.frozen? ⟨gr,1,none⟩=false/\(∃z,w.cell? ⟨gr,0,none⟩=some z)/\(∃z,w.cell? ⟨gr,1,none⟩=some z) /\
   (∀x:Int,∃y,ar (w.setCell ⟨gr,0,none⟩ (.int .i64 x)) base (.slice (some ⟨g,0,none⟩) n c) vi vn { N with ends:=N.ends.set k (es.set 0 y) } S) /\
   (∀x:Int,∃y,ar (w.setCell ⟨gr,1,none⟩ (.int .i64 x)) base (.slice (some ⟨g,0,none⟩) n c) vi vn { N with ends:=N.ends.set k (es.set 0 y) } S):=by
 obtain⟨gr,cr,h1,-,-,-,h2,-,⟨f0,f1⟩,c0,c1,bH⟩:=h.acD hx hj;simp only[Nat.zero_mul,Nat.zero_add]at f0 f1 c0 c1 bH;obtain⟨e,he⟩:=aA es 0 hj;obtain⟨u,T,hu,-,hR,-,-,-⟩:=h.acs hx;rw[h1]at hu;have hu:=Option.some.inj hu;subst hu;obtain⟨d0,d1,-⟩:=dU.cells hR he;simp only[Nat.zero_mul,Nat.zero_add]at d0 d1;refine⟨gr,cr,h1,h2,f0,f1,c0,c1,fun x=>⟨(x,e.2),?_⟩,fun x=>⟨(e.1,x),?_⟩⟩
 ·refine(bH (x,e.2)).aco (fun q _=>?_)
  exact(vu (show(w.setCell ⟨gr,0,none⟩ (.int .i64 x)).cell? ⟨gr,1,none⟩=some (.int .i64 e.2)by rw[Ll (by omega)];exact d1) q).symm
 ·exact(bH (e.1,x)).aco (fun q _=>(Oa d0 _ _ q).symm)
structure Br (cb pb:Nat) (A:Option Addr) (L c P:Nat) (w W:World) (ve vi vn:Value) (N:aj) (S:List Nat):Prop where
 mb:Mb cb w.heap.size pb A L c P w W ve vi vn N S
 rb:aS W (pb+1) (.slice none 0 0) (.slice none 0 0) (.slice none 0 0)
 rn:pb+1∉S
 pe:pb=w.heap.size
 cbp:cb<pb
section
variable {cb pb : Nat} {A : Option Addr} {L c P : Nat} {w W : World} {ve vi vn : Value} {N : aj} {S : List Nat}
theorem Br.sz (h:Br cb pb A L c P w W ve vi vn N S):w.heap.size<=W.heap.size:=by have:=h.rb.lt;have:=h.pe;omega
theorem Br.seen {W':World} {P':Nat} (h:Br cb pb A L c P w W ve vi vn N S) (hs:dK cb W W') (Ew:cG W' cb A L c P'):Br cb pb A L c P' w W' ve vi vn N S:=
 ⟨h.mb.seen hs Ew (by have:=h.pe;have:=h.cbp;omega) (by have:=h.pe;omega) h.sz,(hs.block _ h.rb.lt (by have:=h.cbp;omega)).trans h.rb,h.rn,h.pe,h.cbp⟩
theorem Br.since {W':World} (h:Br cb pb A L c P w W ve vi vn N S) (hs:ab W W'):Br cb pb A L c P w W' ve vi vn N S:=h.seen (CB.of hs) (h.mb.cur.since hs)
theorem Br.up {P':Nat} (h:Br cb pb A L c P w W ve vi vn N S) (hP:P<=P'):Br cb pb A L c P' w W ve vi vn N S:=⟨⟨h.mb.own,h.mb.box,h.mb.nb,h.mb.cur.mono hP,h.mb.far⟩,h.rb,h.rn,h.pe,h.cbp⟩
theorem Br.only {W':World} {N':aj} {S':List Nat} {ve' vi' YK:Value} (h:Br cb pb A L c P w W ve vi vn N S) (ho:ar W' w.heap.size ve' vi' YK N' S') (hS:∀j∈S',j∈S\/W.heap.size<=j) (eH:aX S W W'):
  aY W' pb ve vi vn/\pb∉S'/\pb+1∉S'/\aS W' (pb+1) (.slice none 0 0) (.slice none 0 0) (.slice none 0 0)/\cG W' cb A L c P/\CB cb w.heap.size w W':=by
 have hp:=h.pe;have hc:=h.cbp;have h1:=h.rb.lt;have ln:Below w.heap.size W W':=eH.below _ h.sz (fun k hk=>(h.mb.own.range k hk).1)
 refine⟨h.mb.box.blk (eH.block _ h.mb.box.lt h.mb.nb),fun hj=>?_,fun hj=>?_,(eH.block _ h1 h.rn).trans h.rb,h.mb.cur.keep (fun k hk=>ln.block k (by omega)),h.mb.far.trans (CB.of ln)⟩
 ·rcases hS _ hj with h2 | h2
  ·exact h.mb.nb h2
  ·omega
 ·rcases hS _ hj with h2 | h2
  ·exact h.rn h2
  ·omega
theorem Br.own {W':World} {N':aj} {S':List Nat} (h:Br cb pb A L c P w W ve vi vn N S) (ho:ar W' w.heap.size ve vi vn N' S') (hS:∀j∈S',j∈S\/W.heap.size<=j) (eH:aX S W W'):Br cb pb A L c P w W' ve vi vn N' S':=by
 obtain⟨a1,a2,a3,a4,a5,a6⟩:=h.only ho hS eH;exact⟨⟨ho,a1,a2,a5,a6⟩,a4,a3,h.pe,h.cbp⟩
theorem Br.acF {W':World} {N':aj} {S':List Nat} {v':Value} (h:Br cb pb A L c P w W ve vi vn N S) (ho:ar W' w.heap.size v' vi vn N' S') (hS:∀j∈S',j∈S\/W.heap.size<=j) (eH:aX S W W'):
  aY W' pb ve vi vn/\Br cb pb A L c P w (W'.setCell ⟨pb,0,none⟩ v') v' vi vn N' S':=by
 obtain⟨a1,a2,a3,a4,a5,a6⟩:=h.only ho hS eH;have hp:=h.pe;have hc:=h.cbp
 refine⟨a1,⟨⟨ho.aco (fun k hk=>Below.heap_setCell _ _ _ _ (fun e=>a2 (by have e':k=pb:=e;exact e' ▸ hk))),a1.acF,a2,a5.keep (fun k hk=>Below.heap_setCell _ _ _ _ (by show k≠pb;omega)),a6.setCell (p:=⟨pb,0,none⟩) (.inl (by show _<=pb;omega)) _⟩,a4.other (by show pb+1≠pb;omega),a3,h.pe,h.cbp⟩⟩
theorem Br.acI {W':World} {N':aj} {S':List Nat} {v':Value} (h:Br cb pb A L c P w W ve vi vn N S) (ho:ar W' w.heap.size ve v' vn N' S') (hS:∀j∈S',j∈S\/W.heap.size<=j) (eH:aX S W W'):
  aY W' pb ve vi vn/\Br cb pb A L c P w (W'.setCell ⟨pb,1,none⟩ v') ve v' vn N' S':=by
 obtain⟨a1,a2,a3,a4,a5,a6⟩:=h.only ho hS eH;have hp:=h.pe;have hc:=h.cbp
 refine⟨a1,⟨⟨ho.aco (fun k hk=>Below.heap_setCell _ _ _ _ (fun e=>a2 (by have e':k=pb:=e;exact e' ▸ hk))),a1.acI,a2,a5.keep (fun k hk=>Below.heap_setCell _ _ _ _ (by show k≠pb;omega)),a6.setCell (p:=⟨pb,1,none⟩) (.inl (by show _<=pb;omega)) _⟩,a4.other (by show pb+1≠pb;omega),a3,h.pe,h.cbp⟩⟩
theorem Br.acJ {W':World} {N':aj} {S':List Nat} {v':Value} (h:Br cb pb A L c P w W ve vi vn N S) (ho:ar W' w.heap.size ve vi v' N' S') (hS:∀j∈S',j∈S\/W.heap.size<=j) (eH:aX S W W'):
  aY W' pb ve vi vn/\Br cb pb A L c P w (W'.setCell ⟨pb,2,none⟩ v') ve vi v' N' S':=by
 obtain⟨a1,a2,a3,a4,a5,a6⟩:=h.only ho hS eH;have hp:=h.pe;have hc:=h.cbp
 refine⟨a1,⟨⟨ho.aco (fun k hk=>Below.heap_setCell _ _ _ _ (fun e=>a2 (by have e':k=pb:=e;exact e' ▸ hk))),a1.acJ,a2,a5.keep (fun k hk=>Below.heap_setCell _ _ _ _ (by show k≠pb;omega)),a6.setCell (p:=⟨pb,2,none⟩) (.inl (by show _<=pb;omega)) _⟩,a4.other (by show pb+1≠pb;omega),a3,h.pe,h.cbp⟩⟩
theorem Br.acC {W':World} {T:List Nat} {v':Value} {ids':List Int} (h:Br cb pb A L c P w W ve vi vn N S) (ho:j_ W' w.heap.size v' ids' T) (eH:aX vi.ownBlock.toList W W') (hT:∀j∈T,j∈vi.ownBlock.toList\/W.heap.size<=j):
  aY W' pb ve vi vn/\∃S',Br cb pb A L c P w (W'.setCell ⟨pb,1,none⟩ v') ve v' vn { N with ids:=ids' } S':=by
 obtain⟨S',Ic,x7⟩:=h.mb.own.acG ho eH hT;obtain⟨b1,b2⟩:=h.acI Ic x7 (eH.mono (h.mb.acx.2));exact⟨b1,S',b2⟩
theorem Br.acO {W':World} {T:List Nat} {v':Value} {in':List Int} (h:Br cb pb A L c P w W ve vi vn N S) (ho:j_ W' w.heap.size v' in' T) (eH:aX vn.ownBlock.toList W W') (hT:∀j∈T,j∈vn.ownBlock.toList\/W.heap.size<=j):
  aY W' pb ve vi vn/\∃S',Br cb pb A L c P w (W'.setCell ⟨pb,2,none⟩ v') ve vi v' { N with acn:=in' } S':=by
 obtain⟨S',Ic,x7⟩:=h.mb.own.acN ho eH hT;obtain⟨b1,b2⟩:=h.acJ Ic x7 (eH.mono (h.mb.acS.2));exact⟨b1,S',b2⟩
theorem Br.assign {W1:World} {P':Nat} {a b d:Value} {N':aj} {S':List Nat} (h:Br cb pb A L c P w W ve vi vn N S) (hs:dK cb W W1) (Ew:cG W1 cb A L c P') (ho:ar W1 W.heap.size a b d N' S'):
  Br cb pb A L c P' w (acr W1 pb a b d) a b d N' S':=by
 have hp:=h.pe;have hc:=h.cbp;have h1:=h.rb.lt;refine⟨h.mb.assign hs Ew ho (by omega) (by omega) (by omega) h.sz,(dY _ _ _ _ _ (by omega)).trans ((hs.block _ h.rb.lt (by omega)).trans h.rb),fun hj=>?_,h.pe,h.cbp⟩
 have:=(ho.range _ hj).1
 omega
theorem Br.ret (h:Br cb pb A L c P w W ve vi vn N S):ar (acr W (pb+1) ve vi vn) w.heap.size ve vi vn N S/\cG (acr W (pb+1) ve vi vn) cb A L c P/\CB cb w.heap.size w (acr W (pb+1) ve vi vn):=h.mb.ret h.rn (by have:=h.pe;omega) (by have:=h.pe;have:=h.cbp;omega)
end
structure Bd (N:aj):Prop where
 ends:N.ends.length<=100
 row:∀(k:Nat) (es:List (Int×Int)),N.ends[k]?=some es->es.length<=200
 ids:N.ids.length<=200
 acn:N.acn.length<=200
theorem Bd.small {n:aj} (h:Bd n):pB n:=by
 refine⟨by have:=h.ends;omega,fun k es he=>by have:=h.row k es he;omega,?_⟩
 have h1:oJ n.ends<=2*200*n.ends.length:=K2 (fun es he=>by
  obtain⟨k,hk⟩:=List.getElem?_of_mem he
  exact h.row k es hk)
 have h2:=FR n.ends
 have h3:2*200*n.ends.length<=2*200*100:=Nat.mul_le_mul (by omega) (by have:=h.ends;omega)
 have:=h.ends
 have:=h.ids
 have:=h.acn
 unfold iO;omega
theorem Gd.bd {R M:Nat} {n:aj} (h:Gd R M n) (hR:R<=200) (hM:M<=100):Bd n:=
 ⟨by have:=h.ends;omega,fun k es he=>by have:=h.row k es he;omega,by have:=h.ids;omega,by have:=h.acn;have:=h.ends;omega⟩
theorem Bd.setRow {n:aj} (h:Bd n) (k:Nat) {es:List (Int×Int)} (he:es.length<=200):Bd { n with ends:=n.ends.set k es }:=by
 refine⟨by simp;exact h.ends,fun j fs hf=>?_,h.ids,h.acn⟩
 rw[List.getElem?_set]at hf
 split at hf
 ·split at hf
  ·cases hf;exact he
  ·cases hf
 ·exact h.row j fs hf
end Go.Proofs.YtgmdpppljkmabaaGreat
