/- Parts of the proof: walks of functions and plain laws. -/
import Derived.Test.YtnioemnkfojmkaaGreatP0
import Derived.Test.YtnioemnkfojmkaaGreatP17
import Derived.Test.YtnioemnkfojmkaaGreatP12
import Derived.Test.YtnioemnkfojmkaaGreatP13
set_option maxRecDepth 100000
set_option maxHeartbeats 16000000
namespace Go.Proofs.YtnioemnkfojmkaaGreat
open Go Go.RowKit
def se (d:Nat) (w:World) (e:Ending) (w':World):Prop:=∃a b p,e=.returned (.tuple #[.agg #[.int .i64 p.labels,.int .i64 p.degree,a,b],.bool true])/\eZ w' w.heap.size a b p/\O5 d p/\Below w.heap.size w w'
theorem QT (W:World) (s:Nat) (hs:W.heap.size=s) (x1 x2 y1 y2 z1 z2:Int):cy ((((W.alloc (.cells #[.int .i64 x1,.int .i64 x2] 3)).alloc (.cells #[.int .i64 y1,.int .i64 y2] 3)).alloc (.cells #[.int .i64 z1,.int .i64 z2] 3)).alloc (.cells #[.slice (some ⟨s,0,none⟩) 2 2,.slice (some ⟨s+1,0,none⟩) 2 2,.slice (some ⟨s+1+1,0,none⟩) 2 2] 28)) s (fun j=>s<=j) (.slice (some ⟨s+1+1+1,0,none⟩) 3 3) [[x1,x2],[y1,y2],[z1,z2]]:=by
 subst hs;obtain⟨a1,h1⟩:∃z,z=W.alloc (.cells #[.int .i64 x1,.int .i64 x2] 3):=⟨_,rfl⟩
 obtain⟨a2,h2⟩:∃z,z=a1.alloc (.cells #[.int .i64 y1,.int .i64 y2] 3):=⟨_,rfl⟩
 obtain⟨a3,h3⟩:∃z,z=a2.alloc (.cells #[.int .i64 z1,.int .i64 z2] 3):=⟨_,rfl⟩
 have o1:=dv W [x1,x2] (by simp[maxLen]);have o2:=dv a1 [y1,y2] (by simp[maxLen]);have o3:=dv a2 [z1,z2] (by simp[maxLen])
 have s1:a1.heap.size=W.heap.size+1:=by rw[h1];simp
 have s2:a2.heap.size=W.heap.size+1+1:=by rw[h2,<- s1];simp
 have s3:a3.heap.size=W.heap.size+1+1+1:=by rw[h3,<- s2];simp
 have k2:aa a1 a2:=by rw[h2];exact ae _ (ad _)
 have k3:aa a2 a3:=by rw[h3];exact ae _ (ad _)
 rw[<- h1,<- h2,<- h3]
 replace o1:Own a3 W.heap.size (.slice (some ⟨W.heap.size,0,none⟩) 2 2) [x1,x2]:=Own.since (show Own a1 W.heap.size (.slice (some ⟨W.heap.size,0,none⟩) 2 2) [x1,x2]by rw[h1];exact o1) (k2.after k3)
 replace o2:Own a3 W.heap.size (.slice (some ⟨W.heap.size+1,0,none⟩) 2 2) [y1,y2]:=Own.since (show Own a2 W.heap.size (.slice (some ⟨W.heap.size+1,0,none⟩) 2 2) [y1,y2]by rw[h2,<- s1];exact Own.mono o2 (by omega)) k3
 replace o3:Own a3 W.heap.size (.slice (some ⟨W.heap.size+1+1,0,none⟩) 2 2) [z1,z2]:=by rw[h3,<- s2];exact Own.mono o3 (by omega)
 have:=pG a3 W.heap.size (fun j=>W.heap.size<=j) [.slice (some ⟨W.heap.size,0,none⟩) 2 2,.slice (some ⟨W.heap.size+1,0,none⟩) 2 2,.slice (some ⟨W.heap.size+1+1,0,none⟩) 2 2] [[x1,x2],[y1,y2],[z1,z2]] rfl (by simp[maxLen]) (fun k u y hu hy=>by
  match k,hu,hy with
  | 0,hu,hy=>simp at hu hy;subst hu;subst hy;exact⟨o1,fun j hj=>(World.ownsRow.lt o1 j hj).1⟩
  | 1,hu,hy=>simp at hu hy;subst hu;subst hy;exact⟨o2,fun j hj=>(World.ownsRow.lt o2 j hj).1⟩
  | 2,hu,hy=>simp at hu hy;subst hu;subst hy;exact⟨o3,fun j hj=>(World.ownsRow.lt o3 j hj).1⟩
  | k+3,hu,hy=>simp at hu) (by rw[s3];omega) (by rw[s3];omega)
 rw[s3]at this;exact this
theorem Fo (d:Nat) (w:World) (hd:1<=d/\d<=4):
  Calls Tryz.prog 164 #[.int .i64 d] w fun e w'=>se d w e w':=by
 obtain⟨w0,ar⟩:∃z,z=w.alloc (.cells #[.int .i64 0,.int .i64 0,.slice none 0 0,.slice none 0 0] 26):=⟨_,rfl⟩
 have bu:aa w w0:=by rw[ar];exact ae _ (ad _)
 have uq:Hid (∀X,aa w0 X->X.heap[w.heap.size]?=some (.cells #[.int .i64 0,.int .i64 0,.slice none 0 0,.slice none 0 0] 26 (0,0))):=fun X hX=>by
  have h1:w0.heap[w.heap.size]?=some (.cells #[.int .i64 0,.int .i64 0,.slice none 0 0,.slice none 0 0] 26 (0,0)):=by
   rw[ar];show(w.heap.push _)[w.heap.size]?=_
   rw[Array.getElem?_push_size]
  rw[hX.below.block _ (by rw[ar];simp)]
  exact h1
 have cS:=zh ar;have f6:=zh bu;have dH:=fM (d:Int) 1 4 w0;rw[show fT 1 4 (d:Int)=true from aL.2 ⟨by omega,by omega⟩]at dH
 have kp:=zh dH
 have jw:Hid (w.heap.size<w0.heap.size):=by show _<_;rw[ar];simp
 clear ar bu dH
 go_enter Tryz.func164,Tryz.ntmps164
 go_upto_region 1 with(fail);rw[<- cS.out];go_wp2_with fail;refine kp.out.mono ?_;rintro e QU ⟨rfl,rfl⟩;go_wp2_with fail;refine(kJ d 0 1 w0 hd.1 hd.2).mono ?_;rintro e w1 ⟨u1,rfl,ij,aX⟩;obtain⟨A1,c1,rfl,-,-,-⟩:=id ij.ints;have jH:=zh ((show aa w0 w1 from aX));have Ez:=zh (ij);clear ij aX;obtain⟨n1,jN⟩:∃z,z=(jF d 0 1).length:=⟨_,rfl⟩
 rw[<- jN]at Ez ⊢;have r1:=ti w1 w0.heap.size _ _ Ez.out jH.out.below.size;have r2:=Ye (w1.alloc (.cells #[.slice A1 n1 c1] 28)) (w1.heap.size+1) (by simp) 0 0 1 1;obtain⟨a1,GB⟩:∃z,z=w1.alloc (.cells #[.slice A1 n1 c1] 28):=⟨_,rfl⟩
 rw[<- GB]at r1 r2;obtain⟨a4,GC⟩:∃z,z=((a1.alloc (.cells #[.int .i64 0,.int .i64 0] 3)).alloc (.cells #[.int .i64 1,.int .i64 1] 3)).alloc (.cells #[.slice (some ⟨w1.heap.size+1,0,none⟩) 2 2,.slice (some ⟨w1.heap.size+1+1,0,none⟩) 2 2] 28):=⟨_,rfl⟩
 rw[<- GC]at r2
 have s1:aa w1 a1:=by rw[GB];exact ae _ (ad _)
 have s4:aa a1 a4:=by rw[GC];exact ae _ (ae _ (ae _ (ad _)))
 have qk:=zh ((jH.out.after s1).after s4)
 have HP:Hid (eZ a4 w0.heap.size (.slice (some ⟨w1.heap.size,0,none⟩) 1 1) (.slice (some ⟨w1.heap.size+1+1+1,0,none⟩) 2 2) ⟨2,d,[jF d 0 1],[[0,0],[1,1]]⟩):=
  ⟨_,_,r1.since s4,r2.mono (by have:=jH.out.below.size;omega) (fun _ h=>h),fun j h1 h2=>by omega⟩
 have QV:=zh (show a4=_ by rw[GC,GB])
 have hR:=uq.out a4 qk.out;have d0:a4.cell? ⟨w.heap.size,0,none⟩=some (.int .i64 0):=by simp[World.cell?,hR]
 have d1:a4.cell? ⟨w.heap.size,1,none⟩=some (.int .i64 0):=by simp[World.cell?,hR]
 have d2:a4.cell? ⟨w.heap.size,2,none⟩=some (.slice none 0 0):=by simp[World.cell?,hR]
 have d3:a4.cell? ⟨w.heap.size,3,none⟩=some (.slice none 0 0):=by simp[World.cell?,hR]
 have f0:=frozen_of_row a4 _ 0 _ _ hR;have f1:=frozen_of_row a4 _ 1 _ _ hR;have f2:=frozen_of_row a4 _ 2 _ _ hR;have f3:=frozen_of_row a4 _ 3 _ _ hR;have Hk:Hid (Below w.heap.size w a4):=aa.after f6.out.below qk.out;clear hR r1 r2 s1 s4 GB GC;rw[QV.out]at d0 d1 d2 d3 f0 f1 f2 f3;clear jN;go_wp2;rw[<- QV.out]at d0 d1 d2 d3 f0 f1 f2 f3 ⊢;refine bodyPost_ret (v:=.tuple #[.agg #[.int .i64 2,.int .i64 d,.slice (some ⟨w1.heap.size,0,none⟩) 1 1,.slice (some ⟨w1.heap.size+1+1+1,0,none⟩) 2 2],.bool true]) (by simp[results,Tryz.results164,go_sem, *]) rfl ?_;refine⟨_,_,⟨2,d,[jF d 0 1],[[0,0],[1,1]]⟩,rfl,(eZ.ac4 HP.out fun j q1 q2=>?_).mono (Nat.le_of_lt jw.out),⟨⟨by simp,by simp⟩,rfl,⟨by simp,fun y hy=>?_⟩,⟨by simp,fun y hy=>?_⟩⟩,(((Hk.out.setCell (by simp) _).setCell (by simp) _).setCell (by simp) _).setCell (by simp) _⟩
 ·have q3:=jw.out;rw[Below.heap_setCell _ _ _ j (by simp;omega),Below.heap_setCell _ _ _ j (by simp;omega),Below.heap_setCell _ _ _ j (by simp;omega),Below.heap_setCell _ _ _ j (by simp;omega)]
 ·simp at hy;subst hy;exact vk hd.1 (by decide) (by decide)
 ·simp at hy;rcases hy with rfl | rfl <;> exact pH (by decide) (by decide)
theorem Fp (d:Nat) (w:World) (hd:1<=d/\d<=4):
  Calls Tryz.prog 165 #[.int .i64 d] w fun e w'=>se d w e w':=by
 obtain⟨w0,ar⟩:∃z,z=w.alloc (.cells #[.int .i64 0,.int .i64 0,.slice none 0 0,.slice none 0 0] 26):=⟨_,rfl⟩
 have bu:aa w w0:=by rw[ar];exact ae _ (ad _)
 have uq:Hid (∀X,aa w0 X->X.heap[w.heap.size]?=some (.cells #[.int .i64 0,.int .i64 0,.slice none 0 0,.slice none 0 0] 26 (0,0))):=fun X hX=>by
  have h1:w0.heap[w.heap.size]?=some (.cells #[.int .i64 0,.int .i64 0,.slice none 0 0,.slice none 0 0] 26 (0,0)):=by
   rw[ar];show(w.heap.push _)[w.heap.size]?=_
   rw[Array.getElem?_push_size]
  rw[hX.below.block _ (by rw[ar];simp)]
  exact h1
 have cS:=zh ar;have f6:=zh bu;have dH:=fM (d:Int) 1 4 w0;rw[show fT 1 4 (d:Int)=true from aL.2 ⟨by omega,by omega⟩]at dH
 have kp:=zh dH
 have jw:Hid (w.heap.size<w0.heap.size):=by show _<_;rw[ar];simp
 clear ar bu dH
 go_enter Tryz.func165,Tryz.ntmps165
 go_upto_region 1 with(fail);rw[<- cS.out];go_wp2_with fail;refine kp.out.mono ?_;rintro e QU ⟨rfl,rfl⟩;go_wp2_with fail;refine(kJ d 0 1 w0 hd.1 hd.2).mono ?_;rintro e w1 ⟨u1,rfl,ij,aX⟩;obtain⟨A1,c1,rfl,-,-,-⟩:=id ij.ints;have jH:=zh ((show aa w0 w1 from aX));have Ez:=zh (ij);clear ij aX;go_wp2_with fail;refine(kJ d 2 2 w1 hd.1 hd.2).mono ?_;rintro e w2 ⟨u2,rfl,dW,bJ⟩;obtain⟨A2,c2,rfl,-,-,-⟩:=id dW.ints;have gn:=zh (jH.out.after (show aa w1 w2 from bJ));have KD:=zh (dW.mono jH.out.below.size);have qD:=zh (show aa w1 w2 from bJ);clear dW bJ;obtain⟨n1,jN⟩:∃z,z=(jF d 0 1).length:=⟨_,rfl⟩
 rw[<- jN]at Ez ⊢;obtain⟨n2,nR⟩:∃z,z=(jF d 2 2).length:=⟨_,rfl⟩
 rw[<- nR]at KD ⊢;have Tw:=zh (Ez.out.since (show aa w1 w2 from qD.out));have r1:=zz w2 w0.heap.size _ _ _ _ Tw.out KD.out gn.out.below.size;have r2:=QT (w2.alloc (.cells #[.slice A1 n1 c1,.slice A2 n2 c2] 28)) (w2.heap.size+1) (by simp) 0 0 1 1 1 2;obtain⟨a1,GB⟩:∃z,z=w2.alloc (.cells #[.slice A1 n1 c1,.slice A2 n2 c2] 28):=⟨_,rfl⟩
 rw[<- GB]at r1 r2;obtain⟨a4,GC⟩:∃z,z=(((a1.alloc (.cells #[.int .i64 0,.int .i64 0] 3)).alloc (.cells #[.int .i64 1,.int .i64 1] 3)).alloc (.cells #[.int .i64 1,.int .i64 2] 3)).alloc (.cells #[.slice (some ⟨w2.heap.size+1,0,none⟩) 2 2,.slice (some ⟨w2.heap.size+1+1,0,none⟩) 2 2,.slice (some ⟨w2.heap.size+1+1+1,0,none⟩) 2 2] 28):=⟨_,rfl⟩
 rw[<- GC]at r2
 have s1:aa w2 a1:=by rw[GB];exact ae _ (ad _)
 have s4:aa a1 a4:=by rw[GC];exact ae _ (ae _ (ae _ (ae _ (ad _))))
 have qk:=zh ((gn.out.after s1).after s4)
 have HP:Hid (eZ a4 w0.heap.size (.slice (some ⟨w2.heap.size,0,none⟩) 2 2) (.slice (some ⟨w2.heap.size+1+1+1+1,0,none⟩) 3 3) ⟨3,d,[jF d 0 1,jF d 2 2],[[0,0],[1,1],[1,2]]⟩):=
  ⟨_,_,r1.since s4,r2.mono (by have:=gn.out.below.size;omega) (fun _ h=>h),fun j h1 h2=>by omega⟩
 have QV:=zh (show a4=_ by rw[GC,GB])
 have hR:=uq.out a4 qk.out;have d0:a4.cell? ⟨w.heap.size,0,none⟩=some (.int .i64 0):=by simp[World.cell?,hR]
 have d1:a4.cell? ⟨w.heap.size,1,none⟩=some (.int .i64 0):=by simp[World.cell?,hR]
 have d2:a4.cell? ⟨w.heap.size,2,none⟩=some (.slice none 0 0):=by simp[World.cell?,hR]
 have d3:a4.cell? ⟨w.heap.size,3,none⟩=some (.slice none 0 0):=by simp[World.cell?,hR]
 have f0:=frozen_of_row a4 _ 0 _ _ hR;have f1:=frozen_of_row a4 _ 1 _ _ hR;have f2:=frozen_of_row a4 _ 2 _ _ hR;have f3:=frozen_of_row a4 _ 3 _ _ hR;have Hk:Hid (Below w.heap.size w a4):=aa.after f6.out.below qk.out;clear hR r1 r2 s1 s4 GB GC;rw[QV.out]at d0 d1 d2 d3 f0 f1 f2 f3;clear jN nR;go_wp2;rw[<- QV.out]at d0 d1 d2 d3 f0 f1 f2 f3 ⊢;refine bodyPost_ret (v:=.tuple #[.agg #[.int .i64 3,.int .i64 d,.slice (some ⟨w2.heap.size,0,none⟩) 2 2,.slice (some ⟨w2.heap.size+1+1+1+1,0,none⟩) 3 3],.bool true]) (by simp[results,Tryz.results165,go_sem, *]) rfl ?_;refine⟨_,_,⟨3,d,[jF d 0 1,jF d 2 2],[[0,0],[1,1],[1,2]]⟩,rfl,(eZ.ac4 HP.out fun j q1 q2=>?_).mono (Nat.le_of_lt jw.out),⟨⟨by simp,by simp⟩,rfl,⟨by simp,fun y hy=>?_⟩,⟨by simp,fun y hy=>?_⟩⟩,(((Hk.out.setCell (by simp) _).setCell (by simp) _).setCell (by simp) _).setCell (by simp) _⟩
 ·have q3:=jw.out;rw[Below.heap_setCell _ _ _ j (by simp;omega),Below.heap_setCell _ _ _ j (by simp;omega),Below.heap_setCell _ _ _ j (by simp;omega),Below.heap_setCell _ _ _ j (by simp;omega)]
 ·simp at hy;rcases hy with rfl | rfl <;> exact vk hd.1 (by decide) (by decide)
 ·simp at hy;rcases hy with rfl | rfl | rfl <;> exact pH (by decide) (by decide)
theorem Fq (d:Nat) (w:World) (hd:1<=d/\d<=4):
  Calls Tryz.prog 166 #[.int .i64 d] w fun e w'=>se d w e w':=by
 obtain⟨w0,ar⟩:∃z,z=w.alloc (.cells #[.int .i64 0,.int .i64 0,.slice none 0 0,.slice none 0 0] 26):=⟨_,rfl⟩
 have bu:aa w w0:=by rw[ar];exact ae _ (ad _)
 have uq:Hid (∀X,aa w0 X->X.heap[w.heap.size]?=some (.cells #[.int .i64 0,.int .i64 0,.slice none 0 0,.slice none 0 0] 26 (0,0))):=fun X hX=>by
  have h1:w0.heap[w.heap.size]?=some (.cells #[.int .i64 0,.int .i64 0,.slice none 0 0,.slice none 0 0] 26 (0,0)):=by
   rw[ar];show(w.heap.push _)[w.heap.size]?=_
   rw[Array.getElem?_push_size]
  rw[hX.below.block _ (by rw[ar];simp)]
  exact h1
 have cS:=zh ar;have f6:=zh bu;have dH:=fM (d:Int) 1 4 w0;rw[show fT 1 4 (d:Int)=true from aL.2 ⟨by omega,by omega⟩]at dH
 have kp:=zh dH
 have jw:Hid (w.heap.size<w0.heap.size):=by show _<_;rw[ar];simp
 clear ar bu dH
 go_enter Tryz.func166,Tryz.ntmps166
 go_upto_region 1 with(fail);rw[<- cS.out];go_wp2_with fail;refine kp.out.mono ?_;rintro e QU ⟨rfl,rfl⟩;go_wp2_with fail;refine(kJ d 0 0 w0 hd.1 hd.2).mono ?_;rintro e w1 ⟨u1,rfl,ij,aX⟩;obtain⟨A1,c1,rfl,-,-,-⟩:=id ij.ints;have jH:=zh ((show aa w0 w1 from aX));have Ez:=zh (ij);clear ij aX;go_wp2_with fail;refine(kJ d 1 2 w1 hd.1 hd.2).mono ?_;rintro e w2 ⟨u2,rfl,dW,bJ⟩;obtain⟨A2,c2,rfl,-,-,-⟩:=id dW.ints;have gn:=zh (jH.out.after (show aa w1 w2 from bJ));have KD:=zh (dW.mono jH.out.below.size);have qD:=zh (show aa w1 w2 from bJ);clear dW bJ;obtain⟨n1,jN⟩:∃z,z=(jF d 0 0).length:=⟨_,rfl⟩
 rw[<- jN]at Ez ⊢;obtain⟨n2,nR⟩:∃z,z=(jF d 1 2).length:=⟨_,rfl⟩
 rw[<- nR]at KD ⊢;have Tw:=zh (Ez.out.since (show aa w1 w2 from qD.out));have r1:=zz w2 w0.heap.size _ _ _ _ Tw.out KD.out gn.out.below.size;have r2:=QT (w2.alloc (.cells #[.slice A1 n1 c1,.slice A2 n2 c2] 28)) (w2.heap.size+1) (by simp) 0 1 0 2 2 2;obtain⟨a1,GB⟩:∃z,z=w2.alloc (.cells #[.slice A1 n1 c1,.slice A2 n2 c2] 28):=⟨_,rfl⟩
 rw[<- GB]at r1 r2;obtain⟨a4,GC⟩:∃z,z=(((a1.alloc (.cells #[.int .i64 0,.int .i64 1] 3)).alloc (.cells #[.int .i64 0,.int .i64 2] 3)).alloc (.cells #[.int .i64 2,.int .i64 2] 3)).alloc (.cells #[.slice (some ⟨w2.heap.size+1,0,none⟩) 2 2,.slice (some ⟨w2.heap.size+1+1,0,none⟩) 2 2,.slice (some ⟨w2.heap.size+1+1+1,0,none⟩) 2 2] 28):=⟨_,rfl⟩
 rw[<- GC]at r2
 have s1:aa w2 a1:=by rw[GB];exact ae _ (ad _)
 have s4:aa a1 a4:=by rw[GC];exact ae _ (ae _ (ae _ (ae _ (ad _))))
 have qk:=zh ((gn.out.after s1).after s4)
 have HP:Hid (eZ a4 w0.heap.size (.slice (some ⟨w2.heap.size,0,none⟩) 2 2) (.slice (some ⟨w2.heap.size+1+1+1+1,0,none⟩) 3 3) ⟨3,d,[jF d 0 0,jF d 1 2],[[0,1],[0,2],[2,2]]⟩):=
  ⟨_,_,r1.since s4,r2.mono (by have:=gn.out.below.size;omega) (fun _ h=>h),fun j h1 h2=>by omega⟩
 have QV:=zh (show a4=_ by rw[GC,GB])
 have hR:=uq.out a4 qk.out;have d0:a4.cell? ⟨w.heap.size,0,none⟩=some (.int .i64 0):=by simp[World.cell?,hR]
 have d1:a4.cell? ⟨w.heap.size,1,none⟩=some (.int .i64 0):=by simp[World.cell?,hR]
 have d2:a4.cell? ⟨w.heap.size,2,none⟩=some (.slice none 0 0):=by simp[World.cell?,hR]
 have d3:a4.cell? ⟨w.heap.size,3,none⟩=some (.slice none 0 0):=by simp[World.cell?,hR]
 have f0:=frozen_of_row a4 _ 0 _ _ hR;have f1:=frozen_of_row a4 _ 1 _ _ hR;have f2:=frozen_of_row a4 _ 2 _ _ hR;have f3:=frozen_of_row a4 _ 3 _ _ hR;have Hk:Hid (Below w.heap.size w a4):=aa.after f6.out.below qk.out;clear hR r1 r2 s1 s4 GB GC;rw[QV.out]at d0 d1 d2 d3 f0 f1 f2 f3;clear jN nR;go_wp2;rw[<- QV.out]at d0 d1 d2 d3 f0 f1 f2 f3 ⊢;refine bodyPost_ret (v:=.tuple #[.agg #[.int .i64 3,.int .i64 d,.slice (some ⟨w2.heap.size,0,none⟩) 2 2,.slice (some ⟨w2.heap.size+1+1+1+1,0,none⟩) 3 3],.bool true]) (by simp[results,Tryz.results166,go_sem, *]) rfl ?_;refine⟨_,_,⟨3,d,[jF d 0 0,jF d 1 2],[[0,1],[0,2],[2,2]]⟩,rfl,(eZ.ac4 HP.out fun j q1 q2=>?_).mono (Nat.le_of_lt jw.out),⟨⟨by simp,by simp⟩,rfl,⟨by simp,fun y hy=>?_⟩,⟨by simp,fun y hy=>?_⟩⟩,(((Hk.out.setCell (by simp) _).setCell (by simp) _).setCell (by simp) _).setCell (by simp) _⟩
 ·have q3:=jw.out;rw[Below.heap_setCell _ _ _ j (by simp;omega),Below.heap_setCell _ _ _ j (by simp;omega),Below.heap_setCell _ _ _ j (by simp;omega),Below.heap_setCell _ _ _ j (by simp;omega)]
 ·simp at hy;rcases hy with rfl | rfl <;> exact vk hd.1 (by decide) (by decide)
 ·simp at hy;rcases hy with rfl | rfl | rfl <;> exact pH (by decide) (by decide)
theorem O6 (b:Bool) (w:World):Calls Tryz.prog 193 #[.bool b] w fun e w'=>∃y:Int,(0<=y/\y<=7)/\e=.returned (.int .i64 y)/\w=w':=(LK b w).mono fun _ _ ⟨h1,h2⟩=>⟨_,by cases b <;> decide,h1,h2⟩
def aT (W:World) (pb:Nat) (L D:Int) (a b:Value):Prop:=W.heap[pb]?=some (.cells #[.int .i64 L,.int .i64 D,a,b] 26 (0,0))
theorem aT.cells {W:World} {pb:Nat} {L D:Int} {a b:Value} (h:aT W pb L D a b):W.cell? ⟨pb,0,none⟩=some (.int .i64 L)/\W.cell? ⟨pb,1,none⟩=some (.int .i64 D)/\W.cell? ⟨pb,2,none⟩=some a/\W.cell? ⟨pb,3,none⟩=some b:=by
 unfold aT at h
 refine⟨?_,?_,?_,?_⟩ <;> simp[World.cell?,h]
theorem aT.ac2 {W W':World} {pb:Nat} {L D:Int} {a b:Value} (h:aT W pb L D a b) (hs:aa W W'):aT W' pb L D a b:=by
 have aH:pb<W.heap.size:=by
  by_cases aH:pb<W.heap.size
  ·exact aH
  ·unfold aT at h;rw[Array.getElem?_eq_none (by omega)]at h;cases h
 unfold aT;rw[hs.below.block _ aH];exact h
theorem aT.ady {W:World} {pb:Nat} {L D:Int} {a b:Value} (h:aT W pb L D a b) (u:Value):aT (W.setCell ⟨pb,2,none⟩ u) pb L D u b:=by
 unfold aT at h ⊢
 simp[World.setCell,Array.getElem?_modify,h]
theorem Fr (d:Nat) (w:World) (hd:1<=d/\d<=4):
  Calls Tryz.prog 163 #[.int .i64 d] w fun e w'=>se d w e w':=by
 obtain⟨w0,ar⟩:∃z,z=w.alloc (.cells #[.int .i64 0,.int .i64 0,.slice none 0 0,.slice none 0 0] 26):=⟨_,rfl⟩
 have bu:aa w w0:=by rw[ar];exact ae _ (ad _)
 have uq:Hid (∀X,aa w0 X->aT X w.heap.size 0 0 (.slice none 0 0) (.slice none 0 0)):=fun X hX=>by
  have h1:aT w0 w.heap.size 0 0 (.slice none 0 0) (.slice none 0 0):=by
   unfold aT;rw[ar];show(w.heap.push _)[w.heap.size]?=_
   rw[Array.getElem?_push_size]
  exact h1.ac2 hX
 have cS:=zh ar;have f6:=zh bu;have dH:=fM (d:Int) 1 4 w0;rw[show fT 1 4 (d:Int)=true from aL.2 ⟨by omega,by omega⟩]at dH
 have kp:=zh dH
 have jw:Hid (w.heap.size<w0.heap.size):=by show _<_;rw[ar];simp
 clear ar bu dH
 go_enter Tryz.func163,Tryz.ntmps163
 go_upto_region 1 with(fail);rw[<- cS.out];go_wp2_with fail;refine kp.out.mono ?_;rintro e QU ⟨rfl,rfl⟩;go_upto_region 4 with(fail);obtain⟨a2,Tx⟩:∃z,z=(w0.alloc (.cells #[.int .i64 0,.int .i64 1] 3)).alloc (.cells #[.slice (some ⟨w0.heap.size,0,none⟩) 2 2] 28):=⟨_,rfl⟩
 have he:cy a2 w0.heap.size (fun j=>j<a2.heap.size) (.slice (some ⟨w0.heap.size+1,0,none⟩) 1 1) [[0,1]]:=by
  have o1:=dv w0 [0,1] (by simp[maxLen])
  have o2:=(ti (w0.alloc (.cells #[.int .i64 0,.int .i64 1] 3)) w0.heap.size _ _ o1 (by simp)).bound.mono (T':=fun j=>j<a2.heap.size) (Nat.le_refl _) (fun j h=>by rw[Tx];exact h.2.2)
  rw[show(w0.alloc (.cells #[.int .i64 0,.int .i64 1] 3)).heap.size=w0.heap.size+1 by simp]at o2
  rw[Tx];rw[Tx]at o2;exact o2
 have yc:a2.heap.size=w0.heap.size+1+1:=by rw[Tx];simp
 have yy:aa w0 a2:=by rw[Tx];exact ae _ (ae _ (ad _))
 obtain⟨eb,qC⟩:∃z,z=w0.heap.size+1:=⟨_,rfl⟩
 rw[<- Tx,<- qC];rw[<- qC]at he yc;obtain⟨pb,da⟩:∃z,z=eb+1:=⟨_,rfl⟩
 rw[<- da];rw[<- da]at yc;have HE:=zh he;have kB:=zh yc;have OT:=zh yy;obtain⟨w1,kT⟩:∃z,z=a2.alloc (.cells #[.int .i64 2,.int .i64 d,.slice none 0 0,.slice (some ⟨eb,0,none⟩) 1 1] 26):=⟨_,rfl⟩
 have N_:Hid (aT w1 pb 2 d (.slice none 0 0) (.slice (some ⟨eb,0,none⟩) 1 1)):=by
  show aT _ _ _ _ _ _
  unfold aT;rw[kT,<- yc];show(a2.heap.push _)[a2.heap.size]?=_
  rw[Array.getElem?_push_size]
 have qD:Hid (aa a2 w1):=by show aa _ _;rw[kT];exact ae _ (ad _)
 have Ty:Hid (w1.heap.size=pb+1):=by show _=_;rw[kT];simp[yc]
 rw[<- kT];clear he yc yy qC da Tx kT;go_upto_region 5 with(fail)
 go_loopw [5] (fun i wr=>∃(k:Nat) (a:Value) (l:List (List Int)),1<=k/\k<=d+1/\i=.int .i64 k/\cy wr (pb+1) (fun j=>pb+1<=j) a l/\l.length+1<=k/\(∀y∈l,jW d y)/\aT wr pb 2 d a (.slice (some ⟨eb,0,none⟩) 1 1)/\aa a2 wr/\pb+1<=wr.heap.size) (fun i _=>d+1-(intOf i).toNat)
 case atStart=>exact⟨1,_,[],by omega,by omega,rfl,kH _ _ _,by simp,by simp,N_.out,qD.out,by rw[Ty.out];omega⟩
 case round=>
  obtain⟨k,a,l,pM,nP,rfl,hr,hl,hy,hb,hs,hz⟩:=hrel;obtain⟨wo,rfl⟩:∃z,z=wr:=⟨_,rfl⟩
  obtain⟨A,c,rfl,-,-⟩:=id hr.form;have Hr:=zh hr;have Hl:=zh hl;have Hy:=zh hy;have Hb:=zh hb;have Hs:=zh hs;have Hz:=zh hz;clear hr hl hy hb hs hz
  by_cases aH:k<=d
  ·go_upto_region 9 with(fail)
   go_loopw [6,7] (fun x i wr=>∃(q:Nat) (xs:List Int),q<=d/\i=.int .i64 q/\xs.length=q/\(∀z∈xs,0<=z/\z<=7)/\Own wr wo.heap.size x xs/\aa wo wr) (fun _ i _=>d-(intOf i).toNat)
   case atStart=>exact⟨0,[],Nat.zero_le _,rfl,rfl,by simp,iP _ _,ad _⟩
   case round=>
    obtain⟨q,xs,hq,rfl,sx,uQ,ho,uJ⟩:=hrel;obtain⟨A1,c1,rfl,-,-,-⟩:=id ho.ints;have mw:=zh sx;have JW:=zh uQ;have Ho:=zh ho;have Lk:=zh uJ
    have lM:Hid (xs.length+1<=17592186044416):=by show _<=_;omega
    clear sx uQ ho uJ
    by_cases hqd:q<d
    ·go_wp2_with (first | (go_at_call 193;refine(O6 _ _).mono ?_;rintro e w2 ⟨y,Dd,rfl,rfl⟩;have Fl:=zh Dd;clear Dd) | (at_builtin;refine po rfl _ _ rfl rfl (Ho.out.since (ae _ (ad _))) wr.heap.size y rfl (by simp[go_sem]) lM.out (ae _ Lk.out) ?_;intro g2 c2 w2 dW dZ;have nW:=zh dW;have gn:=zh dZ;clear dW dZ))
     go_roundw
     case rel=>exact⟨q+1,xs++[y],by omega,by go_num,by simp[mw.out],fun z hz=>by rcases List.mem_append.1 hz with h | h;exact JW.out z h;simp at h;rw[h];exact Fl.out,by simpa using nW.out,gn.out⟩
     case measure=>simp[intOf];omega
    ·obtain rfl:q=d:=by omega
     have CI:=zh (Hb.out.ac2 Lk.out);obtain⟨d0,d1,d2,d3⟩:=CI.out.cells;have OH:Hid (pb+1<=wr.heap.size):=Nat.le_trans Hz.out Lk.out.below.size
     have hpi:=sd (.slice A l.length c) (.slice A1 xs.length c1) l xs (pb+1) (fun j=>pb+1<=j) wr (Hr.out.since Lk.out) (Own.mono Ho.out Hz.out) (by have:=Hl.out;omega) OH.out (fun j hj=>Nat.le_trans OH.out hj) (fun j hj=>Nat.le_trans Hz.out (World.ownsRow.lt Ho.out j hj).1) (fun z hz=>by have:=JW.out z hz;omega) (fun y hy=>⟨by rw[(Hy.out y hy).1,mw.out],fun z hz=>by have:=(Hy.out y hy).2 z hz;omega⟩)
     have Hpi:=zh hpi;clear hpi
     go_wp2_with (go_at_call 120;refine Hpi.out.mono ?_;rintro e w2 ⟨r,rfl,ml,bJ⟩;obtain⟨A2,c2,rfl,-,-⟩:=id ml.form;have DD:=zh ml;have kP:=zh bJ;clear ml bJ;have Tz:=zh (CI.out.ac2 (show aa wr w2 from kP.out));obtain⟨e0,e1,e2,e3⟩:=Tz.out.cells;have f2:=frozen_of_row w2 pb 2 _ _ Tz.out)
     go_roundw
     case rel=>exact⟨k+1,_,qU l xs,by omega,by omega,by go_num,DD.out.ac4 (fun j q1 q2 q3=>Below.heap_setCell _ _ _ j (by simp;omega)),by have:=Db l xs;have:=Hl.out;omega,fun y hy=>(Da hy).elim (Hy.out y) (fun e=>by rw[e];exact⟨mw.out,JW.out⟩),Tz.out.ady _,((Hs.out.after Lk.out).after (show aa wr w2 from kP.out)).below.setCell (by rw[kB.out];exact Nat.le_refl _) _,by rw[gt];exact Nat.le_trans OH.out kP.out.size⟩
     case measure=>simp[intOf];omega
  ·have hkd:((k:Int)<=d)=False:=by simp;omega
   have Yf:=zh (OT.out.after Hs.out);have LN:=zh (uq.out wo Yf.out);obtain⟨d0,d1,d2,d3⟩:=LN.out.cells;obtain⟨e0,e1,e2,e3⟩:=Hb.out.cells;have f0:=frozen_of_row wo _ 0 _ _ LN.out;have f1:=frozen_of_row wo _ 1 _ _ LN.out;have f2:=frozen_of_row wo _ 2 _ _ LN.out;have f3:=frozen_of_row wo _ 3 _ _ LN.out;have Hk:Hid (Below w.heap.size w wo):=aa.after f6.out.below Yf.out
   have HP:Hid (eZ wo w0.heap.size (.slice A l.length c) (.slice (some ⟨eb,0,none⟩) 1 1) ⟨2,d,l,[[0,1]]⟩):=
    ⟨_,_,Hr.out.mono (by have:=kB.out;have:=OT.out.below.size;omega) (fun _ h=>h),HE.out.since Hs.out,fun j h1 h2=>by have:=kB.out;omega⟩
   go_wp2;refine bodyPost_ret (v:=.tuple #[.agg #[.int .i64 2,.int .i64 d,.slice A l.length c,.slice (some ⟨eb,0,none⟩) 1 1],.bool true]) (by simp[results,Tryz.results163,go_sem, *]) rfl ?_
   refine⟨_,_,⟨2,d,l,[[0,1]]⟩,rfl,(eZ.ac4 HP.out fun j q1 q2=>?_).mono (Nat.le_of_lt jw.out),⟨⟨by simp,by simp⟩,rfl,⟨by have:=Hl.out;show l.length<=20;omega,Hy.out⟩,⟨by simp,fun y hy=>?_⟩⟩,(((Hk.out.setCell (by simp) _).setCell (by simp) _).setCell (by simp) _).setCell (by simp) _⟩
   ·have q3:=jw.out;rw[Below.heap_setCell _ _ _ j (by simp;omega),Below.heap_setCell _ _ _ j (by simp;omega),Below.heap_setCell _ _ _ j (by simp;omega),Below.heap_setCell _ _ _ j (by simp;omega)]
   ·simp at hy;subst hy;exact pH (by decide) (by decide)
def lw (W:World) (B:Nat) (a b:Value) (l m:List (List Int)):Prop:=∃TN TE:Nat->Prop,cy W B TN a l/\cy W B TE b m/\∀j,TN j->¬TE j
theorem lw.swap {W:World} {B:Nat} {a b:Value} {l m:List (List Int)} (h:lw W B a b l m):lw W B b a m l:=by
 obtain⟨TN,TE,h1,h2,h3⟩:=h;exact⟨TE,TN,h2,h1,fun j x y=>h3 j y x⟩
theorem lw.ac4 {W W':World} {B:Nat} {a b:Value} {l m:List (List Int)} (h:lw W B a b l m) (hk:∀j,B<=j->j<W.heap.size->W'.heap[j]?=W.heap[j]?):lw W' B a b l m:=by
 obtain⟨TN,TE,h1,h2,h3⟩:=h;exact⟨TN,TE,h1.ac4 fun j _=>hk j,h2.ac4 fun j _=>hk j,h3⟩
theorem De {w:World} {ops:Array Oper} {rest:List Oper} {o:Oper} {a:Act} {Q:Exit->Act->World->Prop} (iz:o.guard=none) (s x:Operand)
  (ho:o.op=.call { callee:=.builtin .append,args:=#[s,x],argTypes:=#[24,24] }) {w0:World} {B:Nat} {v v2:Value} {l m:List (List Int)} (hs:a.eval s=v) (h:lw w0 B v v2 l m) (pO:aa w0 w)
  (b:Nat) (u:Value) (y:List Int) (hx:a.eval x=.slice (some ⟨b,0,none⟩) 1 1) (hc:w.cell? ⟨b,0,none⟩=some u) (hu:Own w w0.heap.size u y) (hl:l.length+1<=1000000) (uN:B<=w0.heap.size)
  (k:∀g cap w',lw w' B (.slice (some ⟨g,0,none⟩) (l.length+1) cap) v2 (l++[y]) m->Below B w w'->w.heap.size<=w'.heap.size->wpList Tryz.prog ops Q rest (a.put o.dst (.slice (some ⟨g,0,none⟩) (l.length+1) cap)) w'):wpList Tryz.prog ops Q (o::rest) a w:=by
 obtain⟨TN,TE,h1,h2,h3⟩:=h;have hz:w0.heap.size<=w.heap.size:=pO.below.size;have JQ:=(h1.bound.since pO).mono (T':=fun j=>(TN j/\j<w0.heap.size)\/w0.heap.size<=j) (Nat.le_refl _) (fun j h=>.inl ⟨h.1,h.2.2⟩)
 have RE:=h2.bound.since pO;have aC:∀j,v.ownBlock=some j->B<=j/\j<w0.heap.size:=fun j hj=>h1.lt hj
 refine pD iz s x ho hs JQ b u y hx hc ⟨Own.mono hu uN,fun j hj=>⟨fun e=>?_,.inr (World.ownsRow.lt hu j hj).1⟩⟩ hl (by omega) (fun j hj=>.inr (by omega)) ?_
 ·have:=(aC j e).2
  have:=(World.ownsRow.lt hu j hj).1
  omega
 intro g cap w' q1 q2 q3 q4;refine k g cap w' ⟨_,_,q1,RE.ac4 (fun j q5 q6 q7=>?_),fun j q5 q6=>?_⟩ q4 q2.size
 ·refine q2.block j q7 (fun e=>?_)
  have hT:TN j:=by
   obtain⟨vs,-,-,r4,-⟩:=h1;exact r4 j e.symm
  exact h3 j hT q5.1
 ·rcases q5 with q5 | q5
  ·exact h3 j q5.1 q6.1
  ·omega
theorem aT.ac5 {W:World} {pb:Nat} {L D:Int} {a b:Value} (h:aT W pb L D a b) (u:Value):aT (W.setCell ⟨pb,3,none⟩ u) pb L D a u:=by
 unfold aT at h ⊢
 simp[World.setCell,Array.getElem?_modify,h]
theorem aT.below {W W':World} {pb:Nat} {L D:Int} {a b:Value} (h:aT W pb L D a b) (hs:Below (pb+1) W W'):aT W' pb L D a b:=by
 unfold aT;rw[hs.block pb (by omega)];exact h
theorem Fs (d k:Nat) (w:World) (hd:1<=d/\d<=4) (hk:1<=k/\k<=4):
  Calls Tryz.prog 162 #[.int .i64 d,.int .i64 k] w fun e w'=>se d w e w':=by
 obtain⟨w0,ar⟩:∃z,z=w.alloc (.cells #[.int .i64 0,.int .i64 0,.slice none 0 0,.slice none 0 0] 26):=⟨_,rfl⟩
 have bu:aa w w0:=by rw[ar];exact ae _ (ad _)
 have uq:Hid (∀X,aa w0 X->aT X w.heap.size 0 0 (.slice none 0 0) (.slice none 0 0)):=fun X hX=>by
  have h1:aT w0 w.heap.size 0 0 (.slice none 0 0) (.slice none 0 0):=by
   unfold aT;rw[ar];show(w.heap.push _)[w.heap.size]?=_
   rw[Array.getElem?_push_size]
  exact h1.ac2 hX
 have cS:=zh ar;have f6:=zh bu;have dH:=fM (d:Int) 1 4 w0;rw[show fT 1 4 (d:Int)=true from aL.2 ⟨by omega,by omega⟩]at dH
 have pW:=fM (k:Int) 1 8 w0;rw[show fT 1 8 (k:Int)=true from aL.2 ⟨by omega,by omega⟩]at pW
 have kp:=zh dH;have CF:=zh pW
 have jw:Hid (w.heap.size<w0.heap.size):=by show _<_;rw[ar];simp
 clear ar bu dH pW
 go_enter Tryz.func162,Tryz.ntmps162
 go_upto_region 1 with(fail);rw[<- cS.out];go_wp2_with fail;refine kp.out.mono ?_;rintro e QU ⟨rfl,rfl⟩;go_wp2_with fail;refine CF.out.mono ?_;rintro e QU ⟨rfl,rfl⟩;go_upto_region 5 with(fail);obtain⟨pb,da⟩:∃z,z=w0.heap.size:=⟨_,rfl⟩
 obtain⟨w1,kT⟩:∃z,z=w0.alloc (.cells #[.int .i64 k,.int .i64 d,.slice none 0 0,.slice none 0 0] 26):=⟨_,rfl⟩
 have N_:Hid (aT w1 pb k d (.slice none 0 0) (.slice none 0 0)):=by
  show aT _ _ _ _ _ _
  unfold aT;rw[kT,da];show(w0.heap.push _)[w0.heap.size]?=_
  rw[Array.getElem?_push_size]
 have aa7:Hid (aa w0 w1):=by show aa _ _;rw[kT];exact ae _ (ad _)
 have Ty:Hid (w1.heap.size=pb+1):=by show _=_;rw[kT];simp[da]
 have cB:=zh da;rw[<- kT,<- da];clear kT da
 go_loopw [7] (fun i wr=>∃(q:Nat) (a b:Value) (l m:List (List Int)),q<=k/\i=.int .i64 q/\lw wr (pb+1) a b l m/\l.length<=q/\m.length<=4*q/\(∀y∈l,jW d y)/\(∀y∈m,jW 2 y)/\aT wr pb k d a b/\aa w0 wr/\pb+1<=wr.heap.size) (fun i _=>k-(intOf i).toNat)
 case atStart=>exact⟨0,_,_,[],[],Nat.zero_le _,rfl,⟨fun _=>False,fun _=>False,kH _ _ _,kH _ _ _,fun _ h=>h.elim⟩,by simp,by simp,by simp,by simp,N_.out,aa7.out,by rw[Ty.out];omega⟩
 case round=>
  obtain⟨q,a,b,l,m,hq,rfl,hr,hl,hm,hy,hz,hb,hs,eR⟩:=hrel
  obtain⟨A,c,rfl⟩:∃A c,a=.slice A l.length c:=by obtain⟨TN,TE,h1,-⟩:=hr;obtain⟨A,c,e,-⟩:=h1.form;exact⟨A,c,e⟩
  obtain⟨A2,c2,rfl⟩:∃A c,b=.slice A m.length c:=by obtain⟨TN,TE,-,h1,-⟩:=hr;obtain⟨A,c,e,-⟩:=h1.form;exact⟨A,c,e⟩
  have Hr:=zh hr;have Hl:=zh hl;have Hm:=zh hm;have Hy:=zh hy;have Hz:=zh hz;have Hb:=zh hb;have Hs:=zh hs;have kB:=zh eR;clear hr hl hm hy hz hb hs eR
  by_cases aH:q<k
  ·go_upto_region 7 with(fail)
   have yb:Hid (l.length+1<=1000000):=by show _<=_;have:=Hl.out;omega
   have Ft:aT wr pb k d (.slice A l.length c) (.slice A2 m.length c2):=Hb.out;refine av (fun W=>aT W pb k d (.slice A l.length c) (.slice A2 m.length c2)) 8 [false,false,false,false,false,true,true,true] (by kernel_rfl) (by kernel_rfl) (show aT (World.drew wr) pb k d (.slice A l.length c) (.slice A2 m.length c2)from Ft.ac2 (ag (ad _))) ?_
   simp only[ek,dD,zT]
   iterate 5 (apply bh rfl;(intro W hW;(have k0:=hW.cells.2.2.1);go_simp;with_reducible rfl);simp only[zA])
   obtain⟨W,cA⟩:∃W,W=World.drew wr:=⟨_,rfl⟩
   rw[<- cA];have hW:=(show aT (World.drew wr) pb k d (.slice A l.length c) (.slice A2 m.length c2)from Ft.ac2 (ag (ad _)));rw[<- cA]at hW;have eU:=zh cA;clear cA;refine Or.inl ⟨rfl,?_⟩
   go_simp
   (with_reducible refine(kJ d q q W hd.1 hd.2).mono ?_)
   rintro e W' ⟨u5,rfl,qo,mP⟩;refine⟨_,rfl,(hW.ac2 (show aa W W' from mP)),?_⟩
   replace hW:=(hW.ac2 (show aa W W' from mP))
   obtain⟨A5,c5,rfl,-,-,-⟩:=id qo.ints
   have uA:Hid (Own W' wr.heap.size (.slice A5 (jF d q q).length c5) (jF d q q)):=(by show Own _ _ _ _;rw[eU.out]at qo;exact qo)
   have oQ:Hid (aa wr W'):=(by show aa _ _;rw[eU.out]at mP;exact(ag (ad wr)).after mP)
   clear qo mP
   (try simp only[zA])
   refine bC (v:=?_) (ob:=?_) rfl ?_ ?_ ?_;rotate_left 2
   (go_simp;first | with_reducible rfl | (refine⟨?_,?_⟩ <;> with_reducible rfl))
   exact(hW.ac2 (ae _ (ad _)));intro w6 AG LO
   replace hW:=LO
   clear LO
   have Gt:Hid (Own w6 wr.heap.size (.slice A5 (jF d q q).length c5) (jF d q q)):=(by show Own _ _ _ _;rw[AG];exact uA.out.since (ae _ (ad _)))
   have Tc:Hid (w6.cell? ⟨W'.heap.size,0,none⟩=some (.slice A5 (jF d q q).length c5)):=(by show _=_;rw[AG];simp)
   have Gu:Hid (aa wr w6):=(by show aa _ _;rw[AG];exact ae _ oQ.out)
   clear AG
   (try simp only[zA])
   refine c_ (fun Q' HQ=>?_)
   (refine De rfl _ _ rfl rfl Hr.out Gu.out W'.heap.size _ _ rfl Tc.out Gt.out yb.out kB.out ?_);intro g9 Fu w9 fV ka JA;have sA:Below (pb+1) wr w9:=Below.trans (Gu.out.below.mono kB.out) ka;refine HQ _ _ (Hb.out.below sA) ?_;have xl:=zh fV;have q8:=zh sA;have qT:Hid (pb+1<=w9.heap.size):=Nat.le_trans kB.out (Nat.le_trans Gu.out.below.size JA);replace hW:=Hb.out.below sA;clear fV ka JA sA
   (try simp only[zA])
   simp only[bj];have CI:=zh hW;obtain⟨d0,d1,d2,d3⟩:=hW.cells;have f2:=frozen_of_row w9 pb 2 _ _ hW;clear hW Ft
   have wq:IntKind.i64.wrap ((q:Int)+1)=((q+1:Nat):Int):=by rw[aE _ (by omega) (by omega)];omega
   go_upto_region 9 with(fail);obtain⟨wo,VB⟩:∃z,z=w9.setCell ⟨pb,2,none⟩ (.slice (some ⟨g9,0,none⟩) (l.length+1) Fu):=⟨_,rfl⟩
   have Hqo:Hid (lw wo (pb+1) (.slice (some ⟨g9,0,none⟩) (l.length+1) Fu) (.slice A2 m.length c2) (l++[jF d q q]) m):=by
    show lw _ _ _ _ _ _
    rw[VB]
    exact xl.out.ac4 fun j h1 h2=>Below.heap_setCell _ _ _ j (by simp;omega)
   have rL:Hid (aT wo pb k d (.slice (some ⟨g9,0,none⟩) (l.length+1) Fu) (.slice A2 m.length c2)):=by
    show aT _ _ _ _ _ _
    rw[VB];exact CI.out.ady _
   have yX:Hid (aa w0 wo):=by
    show aa _ _
    rw[VB]
    exact(Hs.out.below.trans (q8.out.mono (by rw[<- cB.out];omega))).setCell (by rw[cB.out];exact Nat.le_refl _) _
   have Hzo:Hid (pb+1<=wo.heap.size):=by show _<=_;rw[VB,gt];exact qT.out
   rw[<- VB];clear VB d0 d1 d2 d3 f2 wq
   go_loopw [8] (fun i wr=>∃(s:Nat) (b:Value) (m2:List (List Int)),q+1<=s/\s<=k/\i=.int .i64 s/\lw wr (pb+1) (.slice (some ⟨g9,0,none⟩) (l.length+1) Fu) b (l++[jF d q q]) m2/\m2.length+1<=4*q+s/\(∀y∈m2,jW 2 y)/\aT wr pb k d (.slice (some ⟨g9,0,none⟩) (l.length+1) Fu) b/\aa w0 wr/\pb+1<=wr.heap.size) (fun i _=>k-(intOf i).toNat)
   case atStart=>exact⟨q+1,_,m,Nat.le_refl _,by omega,by go_num,Hqo.out,by have:=Hm.out;omega,Hz.out,rL.out,yX.out,Hzo.out⟩
   case round=>
    obtain⟨s,b,m2,dw,dZ,rfl,ho,J6,hmy,dj,VC,GD⟩:=hrel
    obtain⟨A3,c3,rfl⟩:∃A c,b=.slice A m2.length c:=by obtain⟨TN,TE,-,h1,-⟩:=ho;obtain⟨A,c,e,-⟩:=h1.form;exact⟨A,c,e⟩
    have Ho:=zh ho.swap;have Hml:=zh J6;have Hmy:=zh hmy;have TA:=zh dj;have VD:=zh VC;have Hzz:=zh GD
    have aa8:Hid (m2.length+1<=1000000):=by show _<=_;omega
    clear ho J6 hmy dj VC GD;obtain⟨d0,d1,d2,d3⟩:=TA.out.cells
    by_cases hsk:s<k
    ·have Hol:Hid (Own ((wr.alloc (.cells #[.int .i64 q,.int .i64 s] 3)).alloc (.cells #[.slice (some ⟨wr.heap.size,0,none⟩) 2 2] 28)) wr.heap.size (.slice (some ⟨wr.heap.size,0,none⟩) 2 2) [(q:Int),(s:Int)]):=(dv wr [(q:Int),(s:Int)] (by simp[maxLen])).since (ae _ (ad _))
     go_wp2_with (at_builtin;refine De rfl _ _ rfl rfl Ho.out (ae _ (ae _ (ad _))) (wr.heap.size+1) _ _ rfl (by simp[go_sem]) Hol.out aa8.out Hzz.out ?_;intro g5 acw w5 qo mP VE;have uA:=zh qo.swap;have Am:Hid (Below (pb+1) wr w5):=Below.trans ((ae _ (ae _ (ad wr))).below.mono Hzz.out) mP;have IR:Hid (pb+1<=w5.heap.size):=Nat.le_trans (Nat.le_trans Hzz.out (ae _ (ae _ (ad wr))).below.size) VE;clear qo mP VE;have TB:=zh (TA.out.below Am.out);obtain⟨e0,e1,e2,e3⟩:=TB.out.cells;have f3:=frozen_of_row w5 pb 3 _ _ TB.out)
     go_roundw
     case rel=>exact⟨s+1,_,m2++[[(q:Int),(s:Int)]],by omega,by omega,by go_num,uA.out.ac4 (fun j h1 h2=>Below.heap_setCell _ _ _ j (by simp;omega)),by have:=Hml.out;simp;omega,fun y hy=>by rcases List.mem_append.1 hy with h | h;exact Hmy.out y h;rw[List.mem_singleton]at h;rw[h];exact pH (by omega) (by omega),TB.out.ac5 _,(VD.out.below.trans (Am.out.mono (by rw[<- cB.out];omega))).setCell (by rw[cB.out];exact Nat.le_refl _) _,by rw[gt];exact IR.out⟩
     case measure=>simp[intOf];omega
    ·obtain rfl:s=k:=by omega
     go_wp2;go_roundw
     case rel=>exact⟨q+1,_,_,l++[jF d q q],m2,by omega,by go_num,Ho.out.swap,by have:=Hl.out;simp;omega,by have:=Hml.out;omega,fun y hy=>by rcases List.mem_append.1 hy with h | h;exact Hy.out y h;rw[List.mem_singleton]at h;rw[h];exact vk hd.1 (by omega) (by omega),Hmy.out,TA.out,VD.out,Hzz.out⟩
     case measure=>simp[intOf];omega
  ·have hkd:((q:Int)<k)=False:=by simp;omega
   have Yf:=zh Hs.out;have LN:=zh (uq.out wr Yf.out);obtain⟨d0,d1,d2,d3⟩:=LN.out.cells;obtain⟨e0,e1,e2,e3⟩:=Hb.out.cells;have f0:=frozen_of_row wr _ 0 _ _ LN.out;have f1:=frozen_of_row wr _ 1 _ _ LN.out;have f2:=frozen_of_row wr _ 2 _ _ LN.out;have f3:=frozen_of_row wr _ 3 _ _ LN.out;have Hk:Hid (Below w.heap.size w wr):=aa.after f6.out.below Yf.out
   have HP:Hid (eZ wr w0.heap.size (.slice A l.length c) (.slice A2 m.length c2) ⟨k,d,l,m⟩):=by
    obtain⟨TN,TE,p1,p2,p3⟩:=Hr.out
    exact⟨TN,TE,p1.mono (by rw[<- cB.out];omega) (fun _ h=>h),p2.mono (by rw[<- cB.out];omega) (fun _ h=>h),p3⟩
   go_wp2;refine bodyPost_ret (v:=.tuple #[.agg #[.int .i64 k,.int .i64 d,.slice A l.length c,.slice A2 m.length c2],.bool true]) (by simp[results,Tryz.results162,go_sem, *]) rfl ?_
   refine⟨_,_,⟨k,d,l,m⟩,rfl,(eZ.ac4 HP.out fun j q1 q2=>?_).mono (Nat.le_of_lt jw.out),⟨⟨by show(1:Int)<=k;omega,by show(k:Int)<=4;omega⟩,rfl,⟨by have:=Hl.out;show l.length<=20;omega,Hy.out⟩,⟨by have:=Hm.out;show m.length<=20;omega,Hz.out⟩⟩,(((Hk.out.setCell (by simp) _).setCell (by simp) _).setCell (by simp) _).setCell (by simp) _⟩
   ·have q3:=jw.out;rw[Below.heap_setCell _ _ _ j (by simp;omega),Below.heap_setCell _ _ _ j (by simp;omega),Below.heap_setCell _ _ _ j (by simp;omega),Below.heap_setCell _ _ _ j (by simp;omega)]
def Yg (cb B:Nat) (A:Option Addr) (L c P d:Nat) (w:World) (e:Ending) (w':World):Prop:=∃a b p,e=.returned (.agg #[.int .i64 p.labels,.int .i64 p.degree,a,b])/\eZ w' B a b p/\O5 d p/\bB w' cb A L c P/\CB cb B w w'
theorem aT.lt {W:World} {pb:Nat} {L D:Int} {a b:Value} (h:aT W pb L D a b):pb<W.heap.size:=by
 by_cases aH:pb<W.heap.size
 ·exact aH
 ·unfold aT at h;rw[Array.getElem?_eq_none (by omega)]at h;cases h
theorem aT.seen {W W':World} {cb pb:Nat} {L D:Int} {a b:Value} (h:aT W pb L D a b) (hs:aY cb W W') (hn:pb≠cb):aT W' pb L D a b:=by
 have:=h.lt
 unfold aT;rw[hs.block pb h.lt hn];exact h
theorem Fv (cb:Nat) (A:Option Addr) (L c P d:Nat) (w:World) (hc:bB w cb A L c P) (hP:P<=4611686018427000000) (hd:1<=d/\d<=4):
  Calls Tryz.prog 119 #[.pointer (some ⟨cb,0,none⟩),.int .i64 d] w (Yg cb w.heap.size A L c (P+4) d w):=by
 have ia:=hc.lt;obtain⟨rb,fG⟩:∃z,z=w.heap.size:=⟨_,rfl⟩
 obtain⟨w0,ar⟩:∃z,z=(w.alloc (.cells #[.int .i64 0,.int .i64 0,.slice none 0 0,.slice none 0 0] 26)).alloc (.cells #[.int .i64 0,.int .i64 0,.slice none 0 0,.slice none 0 0] 26):=⟨_,rfl⟩
 have bu:aa w w0:=by rw[ar];exact ae _ (ae _ (ad _))
 have bG:aT w0 rb 0 0 (.slice none 0 0) (.slice none 0 0):=by
  have h1:aT (w.alloc (.cells #[.int .i64 0,.int .i64 0,.slice none 0 0,.slice none 0 0] 26)) rb 0 0 (.slice none 0 0) (.slice none 0 0):=by
   unfold aT;rw[fG];show(w.heap.push _)[w.heap.size]?=_
   rw[Array.getElem?_push_size]
  rw[ar];exact h1.ac2 (ae _ (ad _))
 have aX:aT w0 (rb+1) 0 0 (.slice none 0 0) (.slice none 0 0):=by
  unfold aT;rw[ar,fG,show w.heap.size+1=(w.alloc (.cells #[.int .i64 0,.int .i64 0,.slice none 0 0,.slice none 0 0] 26)).heap.size by simp]
  show((w.alloc _).heap.push _)[(w.alloc _).heap.size]?=_
  rw[Array.getElem?_push_size]
 have eu:w0.heap.size=rb+1+1:=by rw[ar,fG];simp
 have cS:=zh ar;have f6:=zh bu;have eY:=zh fG;have bQ:=zh bG;have fE:=zh aX;have gh:=zh eu;have xi:=zh (hc.since bu);have pZ:cb<rb:=by omega
 clear ar bu bG aX eu hc ia
 go_enter Tryz.func119,Tryz.ntmps119
 go_upto_region 2 with(fail);rw[<- cS.out,<- eY.out];clear fG;go_wp2_with fail;refine(db cb A L c P 5 w0 xi.out (by omega) (by omega)).mono ?_;rintro e w1 ⟨x,rfl,hx,jc,ky⟩;have Te:x=0\/x=1\/x=2\/x=3\/x=4:=by omega
 clear hx;have gE:=zh jc;have lZ:=zh ky;clear jc ky;rcases Te with rfl | rfl | rfl | rfl | rfl
 ·go_wp2_with fail;refine(db cb A L c (P+2) 4 w1 gE.out (by omega) (by omega)).mono ?_;rintro e w2 ⟨y,rfl,hy,lU,pX⟩;obtain⟨k,hk⟩:∃k:Nat,k=1+y:=⟨_,rfl⟩
  have m1:IntKind.i64.wrap (1+(y:Int))=(k:Int):=by rw[aE _ (by omega) (by omega)];omega
  have Xf:1<=k/\k<=4:=by omega
  have xf:=zh lU;have Ju:=zh (aY.trans lZ.out pX);clear lU pX hy hk;go_wp2_with fail;refine(Fs d k w2 hd Xf).mono ?_;rintro e w3 ⟨a,b,p,rfl,aC,q9,aG⟩
  obtain⟨A1,c1,rfl⟩:∃A c,a=.slice A p.nodes.length c:=by obtain⟨TN,TE,q1,-⟩:=aC;obtain⟨A,c,e,-⟩:=q1.form;exact⟨A,c,e⟩
  obtain⟨A2,c2,rfl⟩:∃A c,b=.slice A p.ac3.length c:=by obtain⟨TN,TE,-,q1,-⟩:=aC;obtain⟨A,c,e,-⟩:=q1.form;exact⟨A,c,e⟩
  have ni:=zh aC;have IU:=zh q9;have HS:Hid (aY cb w0 w3):=aY.after (Ju.out) (show aa w2 w3 from aG);have i_:Hid (bB w3 cb A L c (P+4)):=(xf.out.since (show aa w2 w3 from aG)).mono (by omega)
  have l3:Hid (rb+1+1<=w2.heap.size):=by show _<=_;rw[<- gh.out];exact(Ju.out).size
  obtain⟨lb,gX⟩:∃z,p.labels=z:=⟨_,rfl⟩
  obtain⟨dg,nw⟩:∃z,p.degree=z:=⟨_,rfl⟩
  rw[gX,nw];have qp:=zh gX;have AH:=zh nw;clear aC q9 aG gX nw;have gW:=bQ.out.seen HS.out (by omega);have eA:=fE.out.seen HS.out (by omega);obtain⟨d0,d1,d2,d3⟩:=gW.cells;obtain⟨e0,e1,e2,e3⟩:=eA.cells;have f0:=frozen_of_row w3 _ 0 _ _ gW;have f1:=frozen_of_row w3 _ 1 _ _ gW;have f2:=frozen_of_row w3 _ 2 _ _ gW;have f3:=frozen_of_row w3 _ 3 _ _ gW;have g0:=frozen_of_row w3 _ 0 _ _ eA;have g1:=frozen_of_row w3 _ 1 _ _ eA;have g2:=frozen_of_row w3 _ 2 _ _ eA;have g3:=frozen_of_row w3 _ 3 _ _ eA;clear gW eA;go_wp2;refine bodyPost_ret (v:=.agg #[.int .i64 lb,.int .i64 dg,.slice A1 p.nodes.length c1,.slice A2 p.ac3.length c2]) (by simp[results,Tryz.results119,go_sem, *]) rfl ?_
  have ct:∀j,j≠rb->j≠rb+1->((((((((w3.setCell ⟨rb+1,0,none⟩ (.int .i64 lb)).setCell ⟨rb+1,1,none⟩ (.int .i64 dg)).setCell ⟨rb+1,2,none⟩ (.slice A1 p.nodes.length c1)).setCell ⟨rb+1,3,none⟩ (.slice A2 p.ac3.length c2)).setCell ⟨rb,0,none⟩ (.int .i64 lb)).setCell ⟨rb,1,none⟩ (.int .i64 dg)).setCell ⟨rb,2,none⟩ (.slice A1 p.nodes.length c1)).setCell ⟨rb,3,none⟩ (.slice A2 p.ac3.length c2)).heap[j]?=w3.heap[j]?:=fun j h1 h2=>by
   repeat rw[Below.heap_setCell _ _ _ j (by simp;omega)]
  refine⟨_,_,p,by rw[qp.out,AH.out],(eZ.ac4 ni.out fun j q1 q2=>ct j (by have:=l3.out;omega) (by have:=l3.out;omega)).mono (by have:=l3.out;rw[<- eY.out];omega),IU.out,i_.out.ac2 (fun j hj=>ct j (by omega) (by omega)),?_⟩
  rw[<- eY.out]
  exact(((((((((CB.of (f6.out.below.mono (by rw[eY.out];exact Nat.le_refl _))).trans (HS.out.mono (by rw[gh.out];omega))).setCell (.inl (by simp)) _).setCell (.inl (by simp)) _).setCell (.inl (by simp)) _).setCell (.inl (by simp)) _).setCell (.inl (by simp)) _).setCell (.inl (by simp)) _).setCell (.inl (by simp)) _).setCell (.inl (by simp)) _
 ·go_wp2_with fail;refine(Fr d w1 hd).mono ?_;rintro e w3 ⟨a,b,p,rfl,aC,q9,aG⟩
  obtain⟨A1,c1,rfl⟩:∃A c,a=.slice A p.nodes.length c:=by obtain⟨TN,TE,q1,-⟩:=aC;obtain⟨A,c,e,-⟩:=q1.form;exact⟨A,c,e⟩
  obtain⟨A2,c2,rfl⟩:∃A c,b=.slice A p.ac3.length c:=by obtain⟨TN,TE,-,q1,-⟩:=aC;obtain⟨A,c,e,-⟩:=q1.form;exact⟨A,c,e⟩
  have ni:=zh aC;have IU:=zh q9;have HS:Hid (aY cb w0 w3):=aY.after (lZ.out) (show aa w1 w3 from aG);have i_:Hid (bB w3 cb A L c (P+4)):=(gE.out.since (show aa w1 w3 from aG)).mono (by omega)
  have l3:Hid (rb+1+1<=w1.heap.size):=by show _<=_;rw[<- gh.out];exact(lZ.out).size
  obtain⟨lb,gX⟩:∃z,p.labels=z:=⟨_,rfl⟩
  obtain⟨dg,nw⟩:∃z,p.degree=z:=⟨_,rfl⟩
  rw[gX,nw];have qp:=zh gX;have AH:=zh nw;clear aC q9 aG gX nw;have gW:=bQ.out.seen HS.out (by omega);have eA:=fE.out.seen HS.out (by omega);obtain⟨d0,d1,d2,d3⟩:=gW.cells;obtain⟨e0,e1,e2,e3⟩:=eA.cells;have f0:=frozen_of_row w3 _ 0 _ _ gW;have f1:=frozen_of_row w3 _ 1 _ _ gW;have f2:=frozen_of_row w3 _ 2 _ _ gW;have f3:=frozen_of_row w3 _ 3 _ _ gW;have g0:=frozen_of_row w3 _ 0 _ _ eA;have g1:=frozen_of_row w3 _ 1 _ _ eA;have g2:=frozen_of_row w3 _ 2 _ _ eA;have g3:=frozen_of_row w3 _ 3 _ _ eA;clear gW eA;go_wp2;refine bodyPost_ret (v:=.agg #[.int .i64 lb,.int .i64 dg,.slice A1 p.nodes.length c1,.slice A2 p.ac3.length c2]) (by simp[results,Tryz.results119,go_sem, *]) rfl ?_
  have ct:∀j,j≠rb->j≠rb+1->((((((((w3.setCell ⟨rb+1,0,none⟩ (.int .i64 lb)).setCell ⟨rb+1,1,none⟩ (.int .i64 dg)).setCell ⟨rb+1,2,none⟩ (.slice A1 p.nodes.length c1)).setCell ⟨rb+1,3,none⟩ (.slice A2 p.ac3.length c2)).setCell ⟨rb,0,none⟩ (.int .i64 lb)).setCell ⟨rb,1,none⟩ (.int .i64 dg)).setCell ⟨rb,2,none⟩ (.slice A1 p.nodes.length c1)).setCell ⟨rb,3,none⟩ (.slice A2 p.ac3.length c2)).heap[j]?=w3.heap[j]?:=fun j h1 h2=>by
   repeat rw[Below.heap_setCell _ _ _ j (by simp;omega)]
  refine⟨_,_,p,by rw[qp.out,AH.out],(eZ.ac4 ni.out fun j q1 q2=>ct j (by have:=l3.out;omega) (by have:=l3.out;omega)).mono (by have:=l3.out;rw[<- eY.out];omega),IU.out,i_.out.ac2 (fun j hj=>ct j (by omega) (by omega)),?_⟩
  rw[<- eY.out]
  exact(((((((((CB.of (f6.out.below.mono (by rw[eY.out];exact Nat.le_refl _))).trans (HS.out.mono (by rw[gh.out];omega))).setCell (.inl (by simp)) _).setCell (.inl (by simp)) _).setCell (.inl (by simp)) _).setCell (.inl (by simp)) _).setCell (.inl (by simp)) _).setCell (.inl (by simp)) _).setCell (.inl (by simp)) _).setCell (.inl (by simp)) _
 ·go_wp2_with fail;refine(Fo d w1 hd).mono ?_;rintro e w3 ⟨a,b,p,rfl,aC,q9,aG⟩
  obtain⟨A1,c1,rfl⟩:∃A c,a=.slice A p.nodes.length c:=by obtain⟨TN,TE,q1,-⟩:=aC;obtain⟨A,c,e,-⟩:=q1.form;exact⟨A,c,e⟩
  obtain⟨A2,c2,rfl⟩:∃A c,b=.slice A p.ac3.length c:=by obtain⟨TN,TE,-,q1,-⟩:=aC;obtain⟨A,c,e,-⟩:=q1.form;exact⟨A,c,e⟩
  have ni:=zh aC;have IU:=zh q9;have HS:Hid (aY cb w0 w3):=aY.after (lZ.out) (show aa w1 w3 from aG);have i_:Hid (bB w3 cb A L c (P+4)):=(gE.out.since (show aa w1 w3 from aG)).mono (by omega)
  have l3:Hid (rb+1+1<=w1.heap.size):=by show _<=_;rw[<- gh.out];exact(lZ.out).size
  obtain⟨lb,gX⟩:∃z,p.labels=z:=⟨_,rfl⟩
  obtain⟨dg,nw⟩:∃z,p.degree=z:=⟨_,rfl⟩
  rw[gX,nw];have qp:=zh gX;have AH:=zh nw;clear aC q9 aG gX nw;have gW:=bQ.out.seen HS.out (by omega);have eA:=fE.out.seen HS.out (by omega);obtain⟨d0,d1,d2,d3⟩:=gW.cells;obtain⟨e0,e1,e2,e3⟩:=eA.cells;have f0:=frozen_of_row w3 _ 0 _ _ gW;have f1:=frozen_of_row w3 _ 1 _ _ gW;have f2:=frozen_of_row w3 _ 2 _ _ gW;have f3:=frozen_of_row w3 _ 3 _ _ gW;have g0:=frozen_of_row w3 _ 0 _ _ eA;have g1:=frozen_of_row w3 _ 1 _ _ eA;have g2:=frozen_of_row w3 _ 2 _ _ eA;have g3:=frozen_of_row w3 _ 3 _ _ eA;clear gW eA;go_wp2;refine bodyPost_ret (v:=.agg #[.int .i64 lb,.int .i64 dg,.slice A1 p.nodes.length c1,.slice A2 p.ac3.length c2]) (by simp[results,Tryz.results119,go_sem, *]) rfl ?_
  have ct:∀j,j≠rb->j≠rb+1->((((((((w3.setCell ⟨rb+1,0,none⟩ (.int .i64 lb)).setCell ⟨rb+1,1,none⟩ (.int .i64 dg)).setCell ⟨rb+1,2,none⟩ (.slice A1 p.nodes.length c1)).setCell ⟨rb+1,3,none⟩ (.slice A2 p.ac3.length c2)).setCell ⟨rb,0,none⟩ (.int .i64 lb)).setCell ⟨rb,1,none⟩ (.int .i64 dg)).setCell ⟨rb,2,none⟩ (.slice A1 p.nodes.length c1)).setCell ⟨rb,3,none⟩ (.slice A2 p.ac3.length c2)).heap[j]?=w3.heap[j]?:=fun j h1 h2=>by
   repeat rw[Below.heap_setCell _ _ _ j (by simp;omega)]
  refine⟨_,_,p,by rw[qp.out,AH.out],(eZ.ac4 ni.out fun j q1 q2=>ct j (by have:=l3.out;omega) (by have:=l3.out;omega)).mono (by have:=l3.out;rw[<- eY.out];omega),IU.out,i_.out.ac2 (fun j hj=>ct j (by omega) (by omega)),?_⟩
  rw[<- eY.out]
  exact(((((((((CB.of (f6.out.below.mono (by rw[eY.out];exact Nat.le_refl _))).trans (HS.out.mono (by rw[gh.out];omega))).setCell (.inl (by simp)) _).setCell (.inl (by simp)) _).setCell (.inl (by simp)) _).setCell (.inl (by simp)) _).setCell (.inl (by simp)) _).setCell (.inl (by simp)) _).setCell (.inl (by simp)) _).setCell (.inl (by simp)) _
 ·go_wp2_with fail;refine(Fp d w1 hd).mono ?_;rintro e w3 ⟨a,b,p,rfl,aC,q9,aG⟩
  obtain⟨A1,c1,rfl⟩:∃A c,a=.slice A p.nodes.length c:=by obtain⟨TN,TE,q1,-⟩:=aC;obtain⟨A,c,e,-⟩:=q1.form;exact⟨A,c,e⟩
  obtain⟨A2,c2,rfl⟩:∃A c,b=.slice A p.ac3.length c:=by obtain⟨TN,TE,-,q1,-⟩:=aC;obtain⟨A,c,e,-⟩:=q1.form;exact⟨A,c,e⟩
  have ni:=zh aC;have IU:=zh q9;have HS:Hid (aY cb w0 w3):=aY.after (lZ.out) (show aa w1 w3 from aG);have i_:Hid (bB w3 cb A L c (P+4)):=(gE.out.since (show aa w1 w3 from aG)).mono (by omega)
  have l3:Hid (rb+1+1<=w1.heap.size):=by show _<=_;rw[<- gh.out];exact(lZ.out).size
  obtain⟨lb,gX⟩:∃z,p.labels=z:=⟨_,rfl⟩
  obtain⟨dg,nw⟩:∃z,p.degree=z:=⟨_,rfl⟩
  rw[gX,nw];have qp:=zh gX;have AH:=zh nw;clear aC q9 aG gX nw;have gW:=bQ.out.seen HS.out (by omega);have eA:=fE.out.seen HS.out (by omega);obtain⟨d0,d1,d2,d3⟩:=gW.cells;obtain⟨e0,e1,e2,e3⟩:=eA.cells;have f0:=frozen_of_row w3 _ 0 _ _ gW;have f1:=frozen_of_row w3 _ 1 _ _ gW;have f2:=frozen_of_row w3 _ 2 _ _ gW;have f3:=frozen_of_row w3 _ 3 _ _ gW;have g0:=frozen_of_row w3 _ 0 _ _ eA;have g1:=frozen_of_row w3 _ 1 _ _ eA;have g2:=frozen_of_row w3 _ 2 _ _ eA;have g3:=frozen_of_row w3 _ 3 _ _ eA;clear gW eA;go_wp2;refine bodyPost_ret (v:=.agg #[.int .i64 lb,.int .i64 dg,.slice A1 p.nodes.length c1,.slice A2 p.ac3.length c2]) (by simp[results,Tryz.results119,go_sem, *]) rfl ?_
  have ct:∀j,j≠rb->j≠rb+1->((((((((w3.setCell ⟨rb+1,0,none⟩ (.int .i64 lb)).setCell ⟨rb+1,1,none⟩ (.int .i64 dg)).setCell ⟨rb+1,2,none⟩ (.slice A1 p.nodes.length c1)).setCell ⟨rb+1,3,none⟩ (.slice A2 p.ac3.length c2)).setCell ⟨rb,0,none⟩ (.int .i64 lb)).setCell ⟨rb,1,none⟩ (.int .i64 dg)).setCell ⟨rb,2,none⟩ (.slice A1 p.nodes.length c1)).setCell ⟨rb,3,none⟩ (.slice A2 p.ac3.length c2)).heap[j]?=w3.heap[j]?:=fun j h1 h2=>by
   repeat rw[Below.heap_setCell _ _ _ j (by simp;omega)]
  refine⟨_,_,p,by rw[qp.out,AH.out],(eZ.ac4 ni.out fun j q1 q2=>ct j (by have:=l3.out;omega) (by have:=l3.out;omega)).mono (by have:=l3.out;rw[<- eY.out];omega),IU.out,i_.out.ac2 (fun j hj=>ct j (by omega) (by omega)),?_⟩
  rw[<- eY.out]
  exact(((((((((CB.of (f6.out.below.mono (by rw[eY.out];exact Nat.le_refl _))).trans (HS.out.mono (by rw[gh.out];omega))).setCell (.inl (by simp)) _).setCell (.inl (by simp)) _).setCell (.inl (by simp)) _).setCell (.inl (by simp)) _).setCell (.inl (by simp)) _).setCell (.inl (by simp)) _).setCell (.inl (by simp)) _).setCell (.inl (by simp)) _
 ·go_wp2_with fail;refine(Fq d w1 hd).mono ?_;rintro e w3 ⟨a,b,p,rfl,aC,q9,aG⟩
  obtain⟨A1,c1,rfl⟩:∃A c,a=.slice A p.nodes.length c:=by obtain⟨TN,TE,q1,-⟩:=aC;obtain⟨A,c,e,-⟩:=q1.form;exact⟨A,c,e⟩
  obtain⟨A2,c2,rfl⟩:∃A c,b=.slice A p.ac3.length c:=by obtain⟨TN,TE,-,q1,-⟩:=aC;obtain⟨A,c,e,-⟩:=q1.form;exact⟨A,c,e⟩
  have ni:=zh aC;have IU:=zh q9;have HS:Hid (aY cb w0 w3):=aY.after (lZ.out) (show aa w1 w3 from aG);have i_:Hid (bB w3 cb A L c (P+4)):=(gE.out.since (show aa w1 w3 from aG)).mono (by omega)
  have l3:Hid (rb+1+1<=w1.heap.size):=by show _<=_;rw[<- gh.out];exact(lZ.out).size
  obtain⟨lb,gX⟩:∃z,p.labels=z:=⟨_,rfl⟩
  obtain⟨dg,nw⟩:∃z,p.degree=z:=⟨_,rfl⟩
  rw[gX,nw];have qp:=zh gX;have AH:=zh nw;clear aC q9 aG gX nw;have gW:=bQ.out.seen HS.out (by omega);have eA:=fE.out.seen HS.out (by omega);obtain⟨d0,d1,d2,d3⟩:=gW.cells;obtain⟨e0,e1,e2,e3⟩:=eA.cells;have f0:=frozen_of_row w3 _ 0 _ _ gW;have f1:=frozen_of_row w3 _ 1 _ _ gW;have f2:=frozen_of_row w3 _ 2 _ _ gW;have f3:=frozen_of_row w3 _ 3 _ _ gW;have g0:=frozen_of_row w3 _ 0 _ _ eA;have g1:=frozen_of_row w3 _ 1 _ _ eA;have g2:=frozen_of_row w3 _ 2 _ _ eA;have g3:=frozen_of_row w3 _ 3 _ _ eA;clear gW eA;go_wp2;refine bodyPost_ret (v:=.agg #[.int .i64 lb,.int .i64 dg,.slice A1 p.nodes.length c1,.slice A2 p.ac3.length c2]) (by simp[results,Tryz.results119,go_sem, *]) rfl ?_
  have ct:∀j,j≠rb->j≠rb+1->((((((((w3.setCell ⟨rb+1,0,none⟩ (.int .i64 lb)).setCell ⟨rb+1,1,none⟩ (.int .i64 dg)).setCell ⟨rb+1,2,none⟩ (.slice A1 p.nodes.length c1)).setCell ⟨rb+1,3,none⟩ (.slice A2 p.ac3.length c2)).setCell ⟨rb,0,none⟩ (.int .i64 lb)).setCell ⟨rb,1,none⟩ (.int .i64 dg)).setCell ⟨rb,2,none⟩ (.slice A1 p.nodes.length c1)).setCell ⟨rb,3,none⟩ (.slice A2 p.ac3.length c2)).heap[j]?=w3.heap[j]?:=fun j h1 h2=>by
   repeat rw[Below.heap_setCell _ _ _ j (by simp;omega)]
  refine⟨_,_,p,by rw[qp.out,AH.out],(eZ.ac4 ni.out fun j q1 q2=>ct j (by have:=l3.out;omega) (by have:=l3.out;omega)).mono (by have:=l3.out;rw[<- eY.out];omega),IU.out,i_.out.ac2 (fun j hj=>ct j (by omega) (by omega)),?_⟩
  rw[<- eY.out]
  exact(((((((((CB.of (f6.out.below.mono (by rw[eY.out];exact Nat.le_refl _))).trans (HS.out.mono (by rw[gh.out];omega))).setCell (.inl (by simp)) _).setCell (.inl (by simp)) _).setCell (.inl (by simp)) _).setCell (.inl (by simp)) _).setCell (.inl (by simp)) _).setCell (.inl (by simp)) _).setCell (.inl (by simp)) _).setCell (.inl (by simp)) _
theorem O7 (cb:Nat) (A:Option Addr) (L c P:Nat) (w:World) (hc:bB w cb A L c P) (hP:P<=4611686018427000000):
  Calls Tryz.prog 70 #[.pointer (some ⟨cb,0,none⟩)] w fun e w'=>∃d:Nat,e=.returned (.int .i64 d)/\(1<=d/\d<=4)/\bB w' cb A L c (P+2)/\CB cb w.heap.size w w':=by
 have ia:=hc.lt;have ho:=dv w [1,2,2,2,3,3,3,4] (by simp[maxLen]);obtain⟨w0,ar⟩:∃z,z=w.alloc (.cells #[.int .i64 1,.int .i64 2,.int .i64 2,.int .i64 2,.int .i64 3,.int .i64 3,.int .i64 3,.int .i64 4] 3):=⟨_,rfl⟩
 have bu:aa w w0:=by rw[ar];exact ae _ (ad _)
 have Ho:=zh (show Own w0 w.heap.size (.slice (some ⟨w.heap.size,0,none⟩) 8 8) [1,2,2,2,3,3,3,4]by rw[ar];exact ho)
 have cS:=zh ar;have f6:=zh bu;have xi:=zh (hc.since bu);have aa9:=zh (kz cb A L c P w.heap.size w.heap.size 8 [1,2,2,2,3,3,3,4] w0 xi.out (by omega) Ho.out ia (by simp) (by simp));clear ar bu hc ho
 go_enter Tryz.func70,Tryz.ntmps70
 go_wp2_with fail;rw[<- cS.out];refine aa9.out.mono ?_;rintro e w2 ⟨x,rfl,hx,df,hC⟩
 obtain⟨d,hd,rfl⟩:∃d:Nat,(1<=d/\d<=4)/\x=(d:Int):=by
  refine⟨x.toNat,?_,?_⟩ <;> (simp at hx;omega)
 have nt:=zh df;have HC:=zh hC;clear df hC hx;go_wp2;go_ret;exact⟨d,rfl,hd,nt.out,(CB.of f6.out.below).trans (HC.out.mono f6.out.below.size)⟩
end Go.Proofs.YtnioemnkfojmkaaGreat
