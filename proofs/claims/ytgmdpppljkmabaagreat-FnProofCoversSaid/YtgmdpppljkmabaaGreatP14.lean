/- Parts of the proof: walks of functions and plain laws. -/
import Derived.Test.YtgmdpppljkmabaaGreatP0
import Derived.Test.YtgmdpppljkmabaaGreatP11
import Derived.Test.YtgmdpppljkmabaaGreatP2
import Derived.Laws.Bits64b
import Derived.Test.YtgmdpppljkmabaaGreatP1
import Derived.Test.YtgmdpppljkmabaaGreatP10
import Derived.Test.YtgmdpppljkmabaaGreatP13
set_option maxRecDepth 100000
set_option maxHeartbeats 16000000
namespace Go.Proofs.YtgmdpppljkmabaaGreat
open Go Go.RowKit
theorem Ek (n:Int):IntKind.u64.wrap n=n%18446744073709551616:=by simp[IntKind.wrap,IntKind.bits,IntKind.signed]
theorem KI (s b:Nat) (hb:b<256):IntKind.u64.wrap (IntKind.u64.wrap (IntKind.u64.wrap ((s:Int)*6364136223846793005)+(b:Int))+1442695040888963407)=((nx s b:Nat):Int):=by
 rw[Ek,Ek,Ek];unfold nx;omega
theorem KJ (z:Nat) (hz:z<18446744073709551616):wrap64 (bits BinOp.and IntKind.u64 ((z:Int)/1099511627776) 255)=((byteOf z:Nat):Int):=by
 have h:=bits_and_u64_nat (z/1099511627776) 255 (by omega) (by omega);have e:(((z/1099511627776:Nat)):Int)=(z:Int)/1099511627776:=by simp
 have e2:z/1099511627776 &&& 255=byteOf z:=Nat.and_two_pow_sub_one_eq_mod _ 8
 rw[e,e2]at h;rw[show((255:Nat):Int)=255 from rfl]at h;rw[h]
 have:byteOf z<256:=by unfold byteOf;omega
 unfold wrap64;omega
theorem FM (s b:Nat):nx s b<18446744073709551616:=Nat.mod_lt _ (by omega)
theorem BQ (cb:Nat) (A:Option Addr) (L c p s:Nat) (w:World) (h:zL w cb A L c p s) (hp:p<=4611686018427387904):
  Calls Tryz.prog 136 #[.pointer (some ⟨cb,0,none⟩)] w fun e w'=>∃x s':Nat,e=.returned (.int .i64 x)/\x<256/\zL w' cb A L c (p+1) s'/\(L<=p->s'=nx s 0/\x=byteOf s')/\CB cb w.heap.size w w':=by
 obtain⟨k0,k1,k2⟩:=h.cellsOf;have p0:=ae k0;have p1:=ae k1;have p2:=ae k2;have hL:=h.len;have hc:=h.cap;have H:=zh h;clear h k0 k1 k2
 by_cases az:p<L
 ·obtain⟨b,off,v,rfl,hb,hv,Sm,Sp⟩:=H.out.code p az;have pv:=ae hv;clear hv
  go_enter Tryz.func136,Tryz.ntmps136
  go_upto_region 2 with(fail);refine av 10 (ab w) (by kernel_rfl) (by kernel_rfl) (by simp) (ah (aa _)) ?_;simp only[zT]
  iterate 10 (refine b_ rfl ?_;simp only[zA])
  intro W hW;go_upto_region 3 with(fail);obtain⟨v,rfl⟩:∃n:Nat,v=(n:Int):=⟨v.toNat,by omega⟩
  have Vs:v<256:=by omega
  clear Sm Sp;refine av 10 (ab w) (by kernel_rfl) (by kernel_rfl) (by simp) (ah hW) ?_;simp only[zT]
  iterate 10 (refine b_ rfl ?_;simp only[zA])
  clear hW;intro W2 hW
  have dT:lK W2 cb #[.slice (some ⟨b,off,none⟩) L c,.int .i64 p,.int .u64 s]:=by
   obtain⟨r,hr⟩:=H.out.cells;exact⟨r,(hW.block cb H.out.lt).trans hr⟩
  have m1:IntKind.i64.wrap ((p:Int)+1)=(p:Int)+1:=aH _ (by omega) (by omega);have m2:=KI s v (by omega);have f1:=(dT.cell 1 _ rfl).2;have f2:=(dT.cell 2 _ rfl).2;have g0:=(dT.cell 0 _ rfl).1;have g1:=(dT.cell 1 _ rfl).1;have g2:=(dT.cell 2 _ rfl).1;have Hb:=zh dT;clear dT p0 p1 p2 pv;go_upto_region 6 with(fail);obtain⟨w3,i8⟩:∃z,z=(W2.setCell ⟨cb,1,none⟩ (.int .i64 ((p:Int)+1))).setCell ⟨cb,2,none⟩ (.int .u64 (nx s v:Nat)):=⟨_,rfl⟩
  rw[<- i8]
  have bB:lK w3 cb #[.slice (some ⟨b,off,none⟩) L c,.int .i64 ((p:Int)+1),.int .u64 (nx s v:Nat)]:=by rw[i8];exact ni (ni Hb.out 1 _) 2 _
  have k7:CB cb w.heap.size w w3:=by rw[i8];exact((CB.of hW).setCell (p:=⟨cb,1,none⟩) (.inr rfl) _).setCell (p:=⟨cb,2,none⟩) (.inr rfl) _
  have q0:=ae (bB.cell 0 _ rfl).1;have q1:=ae (bB.cell 1 _ rfl).1;have q2:=ae (bB.cell 2 _ rfl).1;have FL:=zh bB;have uT:=zh k7;clear bB k7 i8 g0 g1 g2 f1 f2 hW Hb;refine av 10 (ab w3) (by kernel_rfl) (by kernel_rfl) (by simp) (ah (aa _)) ?_;simp only[zT]
  iterate 10 (refine b_ rfl ?_;simp only[zA])
  intro W4 kL
  have p8:((p:Int)+1<=(L:Int))=True:=by simp;omega
  go_wp2_with fail;go_ret;refine⟨v,nx s v,rfl,Vs,⟨?_,?_,hL,hc,FM _ _⟩,fun h=>absurd h (by omega),uT.out.trans (CB.mono (CB.of kL) uT.out.size)⟩
  ·obtain⟨r,hr⟩:=FL.out;exact⟨r,(kL.block cb (FL.out.lt)).trans hr⟩
  ·exact H.out.code.keep (fun k hk=>by
    have h1:=H.out.lt;have h2:=uT.out.size
    exact(kL.block k (by omega)).trans (uT.out.block k (by omega) (by omega)))
 ·have hge:((p:Int)<(L:Int))=False:=by simp;omega
  go_enter Tryz.func136,Tryz.ntmps136
  go_upto_region 2 with(fail);refine av 10 (ab w) (by kernel_rfl) (by kernel_rfl) (by simp) (ah (aa _)) ?_;simp only[zT]
  iterate 10 (refine b_ rfl ?_;simp only[zA])
  intro W2 hW
  have dT:lK W2 cb #[.slice A L c,.int .i64 p,.int .u64 s]:=by
   obtain⟨r,hr⟩:=H.out.cells;exact⟨r,(hW.block cb H.out.lt).trans hr⟩
  have m1:IntKind.i64.wrap ((p:Int)+1)=(p:Int)+1:=aH _ (by omega) (by omega)
  have m2:IntKind.u64.wrap (IntKind.u64.wrap (IntKind.u64.wrap ((s:Int)*6364136223846793005))+1442695040888963407)=((nx s 0:Nat):Int):=by have:=KI s 0 (by omega);simpa using this
  have f1:=(dT.cell 1 _ rfl).2;have f2:=(dT.cell 2 _ rfl).2;have g0:=(dT.cell 0 _ rfl).1;have g1:=(dT.cell 1 _ rfl).1;have g2:=(dT.cell 2 _ rfl).1;have Hb:=zh dT;clear dT p0 p1 p2;go_upto_region 6 with(fail);obtain⟨w3,i8⟩:∃z,z=(W2.setCell ⟨cb,1,none⟩ (.int .i64 ((p:Int)+1))).setCell ⟨cb,2,none⟩ (.int .u64 (nx s 0:Nat)):=⟨_,rfl⟩
  rw[<- i8]
  have bB:lK w3 cb #[.slice A L c,.int .i64 ((p:Int)+1),.int .u64 (nx s 0:Nat)]:=by rw[i8];exact ni (ni Hb.out 1 _) 2 _
  have k7:CB cb w.heap.size w w3:=by rw[i8];exact((CB.of hW).setCell (p:=⟨cb,1,none⟩) (.inr rfl) _).setCell (p:=⟨cb,2,none⟩) (.inr rfl) _
  have q0:=ae (bB.cell 0 _ rfl).1;have q1:=ae (bB.cell 1 _ rfl).1;have q2:=ae (bB.cell 2 _ rfl).1;have FL:=zh bB;have uT:=zh k7;clear bB k7 i8 g0 g1 g2 f1 f2 hW Hb;refine av 10 (ab w3) (by kernel_rfl) (by kernel_rfl) (by simp) (ah (aa _)) ?_;simp only[zT]
  iterate 10 (refine b_ rfl ?_;simp only[zA])
  intro W4 kL
  have p8:((p:Int)+1<=(L:Int))=False:=by simp;omega
  go_wp2_with fail;go_ret
  refine⟨byteOf (nx s 0),nx s 0,by rw[KJ _ (FM _ _)];rfl,by unfold byteOf;omega,⟨?_,?_,hL,hc,FM _ _⟩,fun _=>⟨rfl,rfl⟩,uT.out.trans (CB.mono (CB.of kL) uT.out.size)⟩
  ·obtain⟨r,hr⟩:=FL.out;exact⟨r,(kL.block cb (FL.out.lt)).trans hr⟩
  ·exact H.out.code.keep (fun k hk=>by
    have h1:=H.out.lt;have h2:=uT.out.size
    exact(kL.block k (by omega)).trans (uT.out.block k (by omega) (by omega)))
theorem uU (cb:Nat) (A:Option Addr) (L c p s n:Nat) (w:World) (h:zL w cb A L c p s) (hp:p<=4611686018427387000) (hn:n<=1048576):
  Calls Tryz.prog 62 #[.pointer (some ⟨cb,0,none⟩),.int .i64 n] w fun e w'=>∃x p' s':Nat,e=.returned (.int .i64 x)/\(x=0\/x<n)/\p<=p'/\p'<=p+2/\zL w' cb A L c p' s'/\(2<=n->n<=200->p'=p+1/\(L<=p->s'=nx s 0/\x=byteOf s'%n))/\CB cb w.heap.size w w':=by
 have H:=zh h;clear h
 go_enter Tryz.func62,Tryz.ntmps62
 by_cases h1:n<=1
 ·have e1:((n:Int)<=1)=True:=by simp;omega
  go_wp2_with fail;go_ret;exact⟨0,p,s,rfl,.inl rfl,Nat.le_refl _,by omega,H.out,fun h=>absurd h (by omega),CB.refl _ _ _⟩
 ·have e1:((n:Int)<=1)=False:=by simp;omega
  go_wp2_with fail;refine(BQ cb A L c p s _ H.out (by omega)).mono ?_;rintro e w1 ⟨x,s1,rfl,hx,eD,vP,lL⟩;have HC:=zh lL;have Pn:=zh eD;have Hl:=zh vP;clear eD vP lL
  by_cases h2:n<=200
  ·have e2:((200:Int)<(n:Int))=False:=by simp;omega
   have m1:IntKind.i64.wrap ((x:Int)%(n:Int))=(x:Int)%(n:Int):=by
    have q1:=Int.emod_nonneg (x:Int) (show(n:Int)≠0 by omega)
    have q2:=Int.emod_lt_of_pos (x:Int) (show(0:Int)<n by omega)
    exact aH _ (by omega) (by omega)
   have m2:(x:Int).tmod (n:Int)=(x:Int)%(n:Int):=Int.tmod_eq_emod_of_nonneg (by omega)
   have m3:((n:Int)=0)=False:=by simp;omega
   have m4:(n=0)=False:=by simp;omega
   go_wp2_with fail;go_ret;refine⟨x%n,p+1,s1,s9 (by simp),.inr (Nat.mod_lt _ (by omega)),by omega,by omega,Pn.out,fun _ _=>⟨rfl,fun h=>?_⟩,HC.out⟩
   obtain⟨q1,q2⟩:=Hl.out h;exact⟨q1,by rw[q2]⟩
  ·have e2:((200:Int)<(n:Int))=True:=by simp;omega
   have m5:IntKind.i64.wrap ((x:Int)*256)=(x:Int)*256:=aH _ (by omega) (by omega);go_wp2_with fail;refine(BQ cb A L c (p+1) s1 _ Pn.out (by omega)).mono ?_;rintro e w2 ⟨y,s2,rfl,hy,rg,El,pU⟩;have Mm:=zh pU;have Yx:=zh rg;clear rg El pU;obtain⟨z,hz⟩:∃z:Nat,z=x*256+y:=⟨_,rfl⟩
   have m6:(x:Int)*256+(y:Int)=(z:Int):=by omega
   have m7:IntKind.i64.wrap (z:Int)=(z:Int):=aH _ (by omega) (by omega)
   have m1:IntKind.i64.wrap ((z:Int)%(n:Int))=(z:Int)%(n:Int):=by
    have q1:=Int.emod_nonneg (z:Int) (show(n:Int)≠0 by omega)
    have q2:=Int.emod_lt_of_pos (z:Int) (show(0:Int)<n by omega)
    exact aH _ (by omega) (by omega)
   have m2:(z:Int).tmod (n:Int)=(z:Int)%(n:Int):=Int.tmod_eq_emod_of_nonneg (by omega)
   have m3:((n:Int)=0)=False:=by simp;omega
   have m4:(n=0)=False:=by simp;omega
   clear hz;go_wp2_with fail;go_ret;refine⟨z%n,p+1+1,s2,s9 (by simp),.inr (Nat.mod_lt _ (by omega)),by omega,by omega,Yx.out,fun _ h=>absurd h (by omega),HC.out.trans (Mm.out.mono HC.out.size)⟩
def cG (w:World) (cb:Nat) (A:Option Addr) (L c P:Nat):Prop:=∃p s,zL w cb A L c p s/\p<=P
theorem cG.lt {w:World} {cb:Nat} {A:Option Addr} {L c P:Nat} (h:cG w cb A L c P):cb<w.heap.size:=by obtain⟨p,s,h,_⟩:=h;exact h.lt
theorem cG.since {w w':World} {cb:Nat} {A:Option Addr} {L c P:Nat} (h:cG w cb A L c P) (hs:ab w w'):cG w' cb A L c P:=by obtain⟨p,s,h,hp⟩:=h;exact⟨p,s,h.since hs,hp⟩
theorem cG.keep {w w':World} {cb:Nat} {A:Option Addr} {L c P:Nat} (h:cG w cb A L c P) (hb:∀k,k<cb+1->w'.heap[k]?=w.heap[k]?):cG w' cb A L c P:=by obtain⟨p,s,h,hp⟩:=h;exact⟨p,s,h.keep hb,hp⟩
theorem cG.mono {w:World} {cb:Nat} {A:Option Addr} {L c P P':Nat} (h:cG w cb A L c P) (hP:P<=P'):cG w cb A L c P':=by obtain⟨p,s,h,hp⟩:=h;exact⟨p,s,h,by omega⟩
theorem fh.seen {β:Type} {R:World->Nat->Value->β->List Nat->Prop} (L:fh R) {w w':World} {base cb:Nat} {v:Value} {x:β} {S:List Nat} (h:R w base v x S) (hC:dK cb w w') (hb:cb<base):R w' base v x S:=
 L.aco h fun k hk=>hC.block k (L.range h k hk).2 (by have:=(L.range h k hk).1;omega)
theorem ar.seen {w w':World} {base cb:Nat} {a b d:Value} {n:aj} {S:List Nat} (h:ar w base a b d n S) (hC:dK cb w w') (hb:cb<base):ar w' base a b d n S:=
 h.aco fun k hk=>hC.block k (h.range k hk).2 (by have:=(h.range k hk).1;omega)
theorem Own.seen {w w':World} {base cb:Nat} {v:Value} {xs:List Int} (h:Own w base v xs) (hC:dK cb w w') (hb:cb<base):Own w' base v xs:=(fh.seen gm (S:=v.ownBlock.toList) ⟨h,rfl⟩ hC hb).1
theorem db (cb:Nat) (A:Option Addr) (L c P:Nat) (z:Int) (w:World) (h:cG w cb A L c P) (hP:P<=4611686018427387000) (hz:0<=z/\z<=1048576):
  Calls Tryz.prog 62 #[.pointer (some ⟨cb,0,none⟩),.int .i64 z] w fun e w'=>∃x:Nat,e=.returned (.int .i64 x)/\(x=0\/(x:Int)<z)/\cG w' cb A L c (P+2)/\CB cb w.heap.size w w':=by
 obtain⟨p,s,h,hp⟩:=h;obtain⟨n,rfl⟩:∃n:Nat,z=(n:Int):=⟨z.toNat,by omega⟩
 refine(uU cb A L c p s n w h (by omega) (by omega)).mono ?_;rintro e w' ⟨x,p',s',rfl,hx,h1,h2,hc,_,hC⟩;exact⟨x,rfl,by omega,⟨p',s',hc,by omega⟩,hC⟩
theorem k8 (cb:Nat) (A:Option Addr) (L c P:Nat) (z:Int) (w:World) (h:cG w cb A L c P) (hP:P<=4611686018427387000) (hz:0<=z/\z<=1048576):
  Calls Tryz.prog 94 #[.pointer (some ⟨cb,0,none⟩),.int .i64 z] w fun e w'=>∃b:Bool,e=.returned (.bool b)/\cG w' cb A L c (P+2)/\CB cb w.heap.size w w':=by
 have H:=zh h;clear h
 go_enter Tryz.func94,Tryz.ntmps94
 go_wp2_with fail;refine(db cb A L c P z _ H.out hP hz).mono ?_;rintro e w1 ⟨x,rfl,-,eD,lL⟩;have HC:=zh lL;have Pn:=zh eD;clear eD lL;go_wp2_with fail;go_ret;exact⟨_,rfl,Pn.out,HC.out⟩
theorem FN (cb:Nat) (A:Option Addr) (L c P:Nat) (B g q:Nat) (xs:List Int) (w:World) (h:cG w cb A L c P) (hP:P<=4611686018427387000) (ho:Own w B (.slice (some ⟨g,0,none⟩) xs.length q) xs) (hB:cb<B) (hx:1<=xs.length) (sa:xs.length<=1048576):
  Calls Tryz.prog 68 #[.pointer (some ⟨cb,0,none⟩),.slice (some ⟨g,0,none⟩) xs.length q] w fun e w'=>∃x,e=.returned (.int .i64 x)/\x∈xs/\cG w' cb A L c (P+2)/\CB cb w.heap.size w w':=by
 have H:=zh h;have Ho:=zh ho;clear h ho
 go_enter Tryz.func68,Tryz.ntmps68
 go_wp2_with fail;refine(db cb A L c P xs.length _ H.out hP (by omega)).mono ?_;rintro e w1 ⟨x,rfl,hx3,eD,lL⟩;have rh:x<xs.length:=by omega
 obtain⟨y,hy⟩:=aA xs x rh;have c1:=(Ho.out.seen (cb:=cb) lL hB).cell hy;have Hy:=zh hy;have HC:=zh lL;have Pn:=zh eD;clear eD lL hy hx3;go_wp2_with fail;go_ret;exact⟨y,rfl,List.mem_of_getElem? Hy.out,Pn.out,HC.out⟩
def pA (n:Nat) (xs:List Int):Prop:=∀x∈xs,0<=x/\x<(n:Int)
theorem pA.set {n:Nat} {xs:List Int} (h:pA n xs) (k:Nat) {x:Int} (hx:0<=x/\x<(n:Int)):pA n (xs.set k x):=fun y hy=>by
 rcases List.mem_or_eq_of_mem_set hy with h1 | h1
 ·exact h y h1
 ·rw[h1];exact hx
theorem Em (cb:Nat) (A:Option Addr) (L c P n:Nat) (w:World) (h:cG w cb A L c P) (hP:P<=4611686018427000000) (hn:n<=100):
  Calls Tryz.prog 138 #[.pointer (some ⟨cb,0,none⟩),.int .i64 n] w fun e w'=>∃g xs,e=.returned (.slice (some ⟨g,0,none⟩) n n)/\Own w' w.heap.size (.slice (some ⟨g,0,none⟩) n n) xs/\pA n xs/\cG w' cb A L c (P+200)/\CB cb w.heap.size w w':=by
 have H:=zh h;have ig:=h.lt;clear h
 go_enter Tryz.func138,Tryz.ntmps138
 go_wp2_with (at_make;refine jm _ rfl _ _ rfl _ _ n rfl rfl rfl rfl (by omega) ?_;intro w1 gR aN dh;have dr:ab w w1:=aN)
 have IH:=zh dh;clear aN dh
 go_loopw [14] (fun i wr=>∃(k:Nat) (xs:List Int),k<=n/\i=.int .i64 k/\Own wr w.heap.size (.slice (some ⟨w.heap.size,0,none⟩) n n) xs/\pA n xs/\ab w wr/\w.heap.size<wr.heap.size) (fun i _=>n-(intOf i).toNat)
 case atStart=>
  refine⟨0,_,Nat.zero_le _,rfl,gR,fun x hx=>?_,dr,IH.out⟩
  obtain⟨h1,rfl⟩:=List.mem_replicate.1 hx;omega
 case round=>
  obtain⟨k,xs,hk,rfl,ho,hB,bG,hzr⟩:=hrel;have HB:=zh hB;have le:=zh bG;have Ho:=zh ho;have Hzr:=zh hzr
  by_cases az:k<n
  ·have f0:=ho.free k
   obtain⟨y,hy⟩:=aA xs k (by have:=ho.len;omega)
   have c0:=ho.cell hy;have m1:IntKind.i64.wrap ((k:Int)+1)=(k:Int)+1:=aH _ (by omega) (by omega);clear ho hB bG hzr hy gR dr;go_wp2;go_roundw
   case rel=>
    refine⟨k+1,_,by omega,by first | rfl | go_num,Ho.out.set (k:Int),HB.out.set k (by omega),le.out.setCell (by simp) _,?_⟩
    show _<(wr.setCell _ _).heap.size
    rw[iV];exact Hzr.out
   case measure=>simp[intOf];omega
  ·obtain rfl:k=n:=by omega
   have abZ:=zh gR;clear ho hB bG hzr gR dr;have m1:IntKind.i64.wrap ((k:Int)-1)=(k:Int)-1:=aH _ (by omega) (by omega);obtain⟨wo,rfl⟩:∃z,z=wr:=⟨_,rfl⟩
   go_wp2
   go_loopw [7] (fun i wr=>∃(z:Int) (xs:List Int),-1<=z/\z<(k:Int)/\i=.int .i64 z/\Own wr w.heap.size (.slice (some ⟨w.heap.size,0,none⟩) k k) xs/\pA k xs/\cG wr cb A L c (P+2*(k-z.toNat))/\CB cb w.heap.size w wr/\w.heap.size<wr.heap.size) (fun i _=>(intOf i).toNat)
   case atStart=>exact⟨(k:Int)-1,xs,by omega,by omega,by go_num,Ho.out,HB.out,(H.out.since le.out).mono (by omega),CB.of le.out,Hzr.out⟩
   case round=>
    obtain⟨z,ys,dh,dt,rfl,ho,hB,hc,hC,Vt⟩:=hrel;have wU:=zh hB;have fG:=zh ho;have Yx:=zh hc;have Mm:=zh hC;have Vu:=zh Vt;clear ho hB hc hC Vt
    by_cases Vv:0<z
    ·obtain⟨j,rfl⟩:∃j:Nat,z=(j:Int):=⟨z.toNat,by omega⟩
     have rz:1<=j:=by omega
     have xm:j<k:=by omega
     have m2:IntKind.i64.wrap ((j:Int)+1)=(j:Int)+1:=aH _ (by omega) (by omega);have m3:IntKind.i64.wrap ((j:Int)-1)=(j:Int)-1:=aH _ (by omega) (by omega);clear dh dt;go_wp2_with fail;refine(db cb A L c _ ((j:Int)+1) wr Yx.out (by omega) (by omega)).mono ?_;rintro e w3 ⟨x,rfl,hx,CE,k7⟩;have SO:x<k:=by omega
     have ex:=fG.out.seen (cb:=cb) k7 ig;have g_:=ex.len;obtain⟨a,ha⟩:=aA ys j (by omega);obtain⟨b,hb⟩:=aA ys x (by omega);have c1:=ex.cell ha;have c2:=ex.cell hb;have f1:=ex.free j;have f2:=ex.free x;have jy:=zh ex;have Hc3:=zh CE;have uT:=zh k7;have Ha:=zh (wU.out a (List.mem_of_getElem? ha));have Hbm:=zh (wU.out b (List.mem_of_getElem? hb));have dz:=zh g_;clear hx ex CE k7 ha hb g_;go_upto_region 13 with(fail);have mW:=jy.out.set (k:=j) b;have nU:CB cb w.heap.size w3 (w3.setCell ⟨w.heap.size,j,none⟩ (.int .i64 b)):=(CB.refl cb w.heap.size w3).setCell (p:=⟨w.heap.size,j,none⟩) (.inl (Nat.le_refl _)) _
     have NF:∀q,q<cb+1->(w3.setCell ⟨w.heap.size,j,none⟩ (.int .i64 b)).heap[q]?=w3.heap[q]?:=fun q hq=>Below.heap_setCell _ _ _ _ (by show q≠w.heap.size;omega)
     obtain⟨w4,gU⟩:∃z,z=w3.setCell ⟨w.heap.size,j,none⟩ (.int .i64 b):=⟨_,rfl⟩
     rw[<- gU]at mW nU NF ⊢
     obtain⟨d,hd⟩:=aA (ys.set j b) x (by rw[List.length_set,dz.out];exact SO)
     have c4:=mW.cell hd;have f4:=mW.free x;have vN:=zh mW;have HC4:=zh nU;have Hk4:=zh NF;clear gU hd mW nU NF c1 c2 f1 f2;go_wp2;go_roundw
     case rel=>
      have hh:w.heap.size<w4.heap.size:=Nat.lt_of_lt_of_le Vu.out (Nat.le_trans uT.out.size HC4.out.size)
      refine⟨(j:Int)-1,(ys.set j b).set x a,by omega,by omega,by first | rfl | go_num,vN.out.set a,(wU.out.set j Hbm.out).set x Ha.out,?_,((Mm.out.trans (uT.out.mono (by have:=Vu.out;omega))).trans HC4.out).setCell (p:=⟨w.heap.size,x,none⟩) (.inl (Nat.le_refl _)) _,by rw[iV];exact hh⟩
      have h1:=(Hc3.out.keep Hk4.out).keep (w':=w4.setCell ⟨w.heap.size,x,none⟩ (.int .i64 a)) (fun q hq=>Below.heap_setCell _ _ _ _ (by show q≠w.heap.size;omega))
      exact h1.mono (by omega)
     case measure=>simp[intOf];omega
    ·have HF:=zh Vv;go_wp2;go_ret;exact⟨w.heap.size,rfl,ys,fG.out,wU.out,Yx.out.mono (by omega),Mm.out⟩
theorem np (n:Nat) (hn:n<=1000000) (w:World):Calls Tryz.prog 154 #[.int .i64 n] w (o_ w (dy n)):=by
 have m1:=r9 n hn;have m2:=r_ n hn
 go_enter Tryz.func154,Tryz.ntmps154
 go_wp2
 go_region
 ·go_wp2;refine bodyPost_ret (v:=.agg #[.slice (some ⟨w.heap.size+1,0,none⟩) n n,.slice none 0 0,.slice (some ⟨w.heap.size+1+1,0,none⟩) n n]) (by simp[results,Tryz.results154,go_sem]) rfl ?_;exact⟨_,_,_,_,rfl,(Dg w _ n hn).drew,(Ji _ _ _ _).drew⟩
 ·go_wp2;refine bodyPost_ret (v:=.agg #[.slice (some ⟨w.heap.size+1+1,0,none⟩) n n,.slice none 0 0,.slice (some ⟨w.heap.size+1,0,none⟩) n n]) (by simp[results,Tryz.results154,go_sem]) rfl ?_;exact⟨_,_,_,_,rfl,(Ak w _ n hn).drew,(Ji _ _ _ _).drew⟩
structure pB (n:aj):Prop where
 ends:n.ends.length<=1000
 row:∀(k:Nat) (es:List (Int×Int)),n.ends[k]?=some es->es.length<=1000
 sz:iO n<=1048576
def cH (n:aj) (v:Nat):List (Int×Int):=n.ends.getD v []
def pC (n:aj) (v:Nat) (e:Int×Int):aj:={ n with ends:=n.ends.set v (cH n v++[e]) }
def kw (n:aj) (v:Nat):aj:=pC n v ((v:Int),((cH n v).length:Int))
def dg (n:aj) (v u:Nat):aj:=pC (pC n v ((u:Int),if v=u then ((cH n u).length:Int)+1 else ((cH n u).length:Int))) u ((v:Int),((cH n v).length:Int))
theorem cD {n:aj} {v:Nat} (hv:v<n.ends.length):n.ends[v]?=some (cH n v):=by
 unfold cH;rw[zDd,List.getElem?_eq_getElem hv];rfl
theorem io (n:aj) (v:Nat) (e:Int×Int):(pC n v e).ends.length=n.ends.length:=by simp[pC]
theorem ar.head {w:World} {base k c:Nat} {A:Option Addr} {vi vn:Value} {N:aj} {S:List Nat} (h:ar w base (.slice A k c) vi vn N S) (h0:0<N.ends.length):∃g,A=some ⟨g,0,none⟩/\k=N.ends.length:=by
 obtain⟨S1,S2,S3,⟨vs,Ss,h1,_⟩,_⟩:=h;have h3:=dF h1;rcases h3 with⟨hv,h2⟩ | ⟨g,c',hv,_⟩
 ·omega
 ·cases hv;exact⟨g,rfl,rfl⟩
theorem k9 {wc w8 w9:World} {base g c k v g9 cc:Nat} {vi vn u:Value} {N:aj} {S T:List Nat} {x:List (Int×Int)} {y:Int×Int}
  (mp:∀(u':Value) (x':List (Int×Int)) (T':List Nat) (w':World),dU w' base u' x' T'->aX T wc w'->(∀j∈T',j∈T\/wc.heap.size<=j)->∃S',ar (w'.setCell ⟨g,v,none⟩ u') base (.slice (some ⟨g,0,none⟩) k c) vi vn { N with ends:=N.ends.set v x' } S'/\∀j∈S',j∈S\/wc.heap.size<=j)
  (hR:dU wc base u x T) (h8:ab wc w8) (gP:dU w9 base (.slice (some ⟨g9,0,none⟩) (x.length+1) cc) (x++[y]) [g9]) (lu:w8.grownBy w9 u.ownBlock) (pD:u.ownBlock=some g9\/g9=w8.heap.size) (MA:∀j∈T,j∈S) (Dh:g∈S):
  ∃S',ar (w9.setCell ⟨g,v,none⟩ (.slice (some ⟨g9,0,none⟩) (x.length+1) cc)) base (.slice (some ⟨g,0,none⟩) k c) vi vn { N with ends:=N.ends.set v (x++[y]) } S'/\(∀j∈S',j∈S\/wc.heap.size<=j)/\aX S wc (w9.setCell ⟨g,v,none⟩ (.slice (some ⟨g9,0,none⟩) (x.length+1) cc)):=by
 have hT:T=u.ownBlock.toList:=hR.2
 have SQ:aX T wc w9:=by rw[hT];exact(aX.acH h8).trans (aX.acq lu)
 obtain⟨S',h1,h2⟩:=mp _ _ _ _ gP SQ (fun j hj=>by
  simp at hj;subst hj
  rcases pD with h | h
  ·left;rw[hT,h];simp
  ·right;rw[h];exact h8.size)
 exact⟨S',h1,h2,(SQ.mono MA).setCell (.inl Dh) _⟩
theorem En (ve vi vn:Value) (n:aj) (v:Nat) (w:World) (h:aC w ve vi vn n) (hv:v<n.ends.length) (hn:pB n):
  Calls Tryz.prog 193 #[.agg #[ve,vi,vn],.int .i64 v] w (o_ w (kw n v)):=by
 have FO:=zh hn;clear hn
 obtain⟨w0,A,c,A2,c2,A3,c3,rfl,rfl,rfl,fg,hm,f8,fP,HA,bS,aT,H,dP,d9,dV⟩:=zB h;clear h
 obtain⟨wa,jC⟩:∃wa,wa=w0.alloc (.cells #[.slice none 0 0,.slice none 0 0,.slice none 0 0] 27):=⟨_,rfl⟩
 have ll:ab w0 wa:=by rw[jC];exact ad _ (aa _)
 have kY:w0.heap.size=w.heap.size+1:=by rw[bS.out];simp
 have zH:Hid (wa.heap.size=w.heap.size+1+1):=by show _=_;rw[jC,<- kY];simp
 have CQ:Hid (∀X,ab wa X->aS X (w.heap.size+1) (.slice none 0 0) (.slice none 0 0) (.slice none 0 0)):=fun X hX=>by
  refine aS.since (W:=wa) ?_ hX;rw[jC,<- kY];show(w0.heap.push _)[w0.heap.size]?=_
  rw[Array.getElem?_push_size]
 have yU:=ag dP ll;have DX:=ag d9 ll;have DY:=ag dV ll;have Bx:=zh jC;have vT:=zh ll;have gO:Hid (Below w.heap.size w wa):=Below.trans aT.out (ll.below.mono aT.out.size);clear jC ll kY dP d9 dV
 go_enter Tryz.func193,Tryz.ntmps193
 go_upto_region 1 with(fail);rw[<- bS.out,<- Bx.out];have hs:ab wa wa:=aa _;go_wp2_with fail;refine(j6 _ _ _ n wa (H.out.keep vT.out.below) FO.out.ends FO.out.row FO.out.sz).mono ?_;rintro e w1 ⟨we,wi,wn,S,rfl,ho,aN⟩;obtain⟨A1,c1,rfl,-,-,-⟩:=id ho.read.1;obtain⟨AI,cI,rfl,-,-,-⟩:=id ho.read.2.1;obtain⟨AN,cN,rfl,-,-,-⟩:=id ho.read.2.2;obtain⟨g,rfl,-⟩:=ho.head (by omega);obtain⟨base,gY⟩:∃base,base=wa.heap.size:=⟨_,rfl⟩
 rw[<- gY]at ho;have dr:ab wa w1:=hs.trans aN;obtain⟨w2,iY⟩:∃z,z=w1.alloc (.cells #[.slice (some ⟨g,0,none⟩) n.ends.length c1,.slice AI n.ids.length cI,.slice AN n.acn.length cN] 27):=⟨_,rfl⟩
 obtain⟨bo,uV⟩:∃z,z=w1.heap.size:=⟨_,rfl⟩
 have kb:ab w1 w2:=by rw[iY];exact ad _ (aa _)
 have yI:aY w2 bo (.slice (some ⟨g,0,none⟩) n.ends.length c1) (.slice AI n.ids.length cI) (.slice AN n.acn.length cN):=by rw[iY,uV];exact aY.new _ _ _ _ _
 have J7:bo∉S:=fun hj=>by have:=(ho.range _ hj).2;omega
 have ms:=zh gY;have xQ:=zh iY;have Po:=zh uV;have pu:=zh (ho.keep kb.below);have BS:=zh yI;have zN:=zh J7;have cW:=zh (dr.after kb)
 have ze:Hid (base<=bo/\bo<w2.heap.size):=⟨by rw[gY,uV];exact dr.below.size,by rw[iY,uV];simp⟩
 have mC:=cD hv;obtain⟨xv,pE⟩:∃x,x=cH n v:=⟨_,rfl⟩
 rw[<- pE]at mC;have H6:=zh pE;have QT:=zh mC;have uW:Hid (xv.length<=1000):=FO.out.row _ _ mC;clear gY iY uV ho yI J7 dr kb aN hs pE mC yU DX DY;have vP:=uW.out
 have SR:Hid (xv.length+1<=1000000):=by show _<=_;omega
 have uX:Hid (base<=w2.heap.size):=by show _<=_;have:=ze.out;omega
 clear vP;go_upto_region 2 with(fail);rw[<- xQ.out,<- Po.out];obtain⟨u2,T2,yl,GD,FP,pF,uY,qV,ky⟩:=pu.out.acw QT.out;obtain⟨sq,sr,rfl,-,-,-⟩:=id FP.read;have Eo:=zh FP;have pG:=zh ky;have BU:g≠bo:=fun h=>zN.out (h ▸ qV)
 have Vw:=zh BU;have Ep:=zh uY;have Er:=zh qV;have Es:=zh pF;have KK:=zh yl;have Ra:=zh GD;have Et:Hid (bo∉T2):=fun h=>zN.out (pF _ h)
 have wU:=zh (aY.cells BS.out);clear BU uY qV pF yl GD FP ky;refine ax (fun W=>W.cell? ⟨bo,0,none⟩=some (.slice (some ⟨g,0,none⟩) n.ends.length c1)/\W.cell? ⟨g,v,none⟩=some (.slice sq xv.length sr)) 18 [false,false,false,false,false,false,false,false,false,false,false,false,false,false,false,false,true,true] (by kernel_rfl) (by kernel_rfl) (show(World.drew w2).cell? ⟨bo,0,none⟩=some (.slice (some ⟨g,0,none⟩) n.ends.length c1)/\(World.drew w2).cell? ⟨g,v,none⟩=some (.slice sq xv.length sr)from⟨wU.out.1,KK.out⟩) ?_
 simp only[er,dS,zT]
 iterate 16 (apply bs rfl;(intro W hW;(obtain⟨k0,k1⟩:=hW);go_simp;with_reducible rfl);simp only[zA])
 obtain⟨W,cS⟩:∃W,W=World.drew w2:=⟨_,rfl⟩
 rw[<- cS];have hW:=(show(World.drew w2).cell? ⟨bo,0,none⟩=some (.slice (some ⟨g,0,none⟩) n.ends.length c1)/\(World.drew w2).cell? ⟨g,v,none⟩=some (.slice sq xv.length sr)from⟨wU.out.1,KK.out⟩);rw[<- cS]at hW;have eY:=zh cS;clear cS
 refine ch (v:=?_) (ob:=?_) rfl ?_ ?_ ?_;rotate_left 2
 (go_simp;first | with_reducible rfl | (refine⟨?_,?_⟩ <;> with_reducible rfl))
 exact⟨bc (ai _ _) hW.1,bc (ai _ _) hW.2⟩;intro w8 jk jD
 replace hW:=jD
 clear jD
 have uZ:Hid (w8=(World.drew w2).alloc (.cells #[.int .i64 (v:Int),.int .i64 (xv.length:Int)] 83)):=by show _=_;rw[jk,eY.out]
 have iS:Hid (ab w2 w8):=by show ab _ _;rw[uZ.out];exact ad _ (ah (aa _))
 have pR:Hid (dU w8 base (.slice sq xv.length sr) xv T2):=gj.keep Eo.out iS.out.below
 have u_:Hid (w8.cell? ⟨w2.heap.size,0,none⟩=some (.int .i64 (v:Int))/\w8.cell? ⟨w2.heap.size,1,none⟩=some (.int .i64 (xv.length:Int))):=by show _/\_;rw[uZ.out];exact il (World.drew w2) _ _ _
 rw[show W.heap.size=w2.heap.size from by rw[eY.out];rfl]
 clear jk eY
 (try simp only[zA])
 refine df (fun Q' HQ=>?_)
 (refine im (base:=base) (v:=.slice sq xv.length sr) (xs:=xv) rfl _ _ rfl rfl pR.out w2.heap.size ((v:Int),(xv.length:Int)) rfl u_.out.1 u_.out.2 SR.out (Nat.le_trans uX.out iS.out.below.size) ?_);intro g9 zb w9 gP lu pD;have dL:=aX.acq lu;have nq:(Value.slice sq xv.length sr).ownBlock.toList=T2:=(Eo.out.2).symm;have jU:(⟨bo,0,none⟩:Addr).block∉(Value.slice sq xv.length sr).ownBlock.toList:=(by rw[nq];exact Et.out);have mi:(⟨g,v,none⟩:Addr).block∉(Value.slice sq xv.length sr).ownBlock.toList:=(by rw[nq];exact Ep.out);have kJ:=dL.cell jU hW.1;have nO:=dL.cell mi hW.2;have CN:=dL.fz mi hW.2 (bf iS.out.below KK.out Ra.out);refine HQ _ _ ⟨kJ,nO⟩ ?_;have oz:=zh (k9 pG.out Eo.out iS.out gP lu pD Es.out Er.out);clear gP lu pD jU mi dL nq hW
 (try simp only[zA])
 simp only[bh];go_upto_region 3 with(fail);obtain⟨Vx,dh,dt,oU⟩:=oz.out;obtain⟨w5,hw⟩:∃z,z=w9.setCell ⟨g,v,none⟩ (.slice (some ⟨g9,0,none⟩) (xv.length+1) zb):=⟨_,rfl⟩
 rw[<- hw]at dh oU ⊢;have KL:=zh dh;have NG:=zh dt;have ss:=zh oU;clear hw dh dt oU oz kJ nO CN
 have Pp:Hid (ar w5 base (.slice (some ⟨g,0,none⟩) n.ends.length c1) (.slice AI n.ids.length cI) (.slice AN n.acn.length cN) (kw n v) Vx):=by show ar _ _ _ _ _ _ _;unfold kw pC;rw[<- H6.out];exact KL.out
 have Vy:Hid (aY w5 bo (.slice (some ⟨g,0,none⟩) n.ends.length c1) (.slice AI n.ids.length cI) (.slice AN n.acn.length cN)):=by obtain⟨r,hr⟩:=BS.out;exact⟨r,(ss.out.block bo ze.out.2 zN.out).trans hr⟩
 have BV:Hid (Below base w2 w5):=ss.out.below base uX.out (fun j hj=>(pu.out.range j hj).1)
 have dJ:aS w5 (w.heap.size+1) (.slice none 0 0) (.slice none 0 0) (.slice none 0 0):=(BV.out.block _ (by have h2:=ms.out;have h3:=zH.out;omega)).trans (CQ.out w2 cW.out)
 obtain⟨d0,d1,d2,-,-,-⟩:=Vy.out.cells;obtain⟨e0,e1,e2,f0,f1,f2⟩:=dJ.box.cells;clear dJ;go_wp2;refine bodyPost_ret (v:=.agg #[.slice (some ⟨g,0,none⟩) n.ends.length c1,.slice AI n.ids.length cI,.slice AN n.acn.length cN]) (by simp[results,Tryz.results193,go_sem, *]) rfl ?_;have hbz:=ms.out;have Yy:=zH.out;refine⟨_,_,_,_,rfl,(Pp.out.aco (fun j hj=>?_)).mono (show w.heap.size<=base by omega),?_⟩
 ·have rz:=(Pp.out.range j hj).1;rw[Below.heap_setCell _ _ _ j (by simp;omega),Below.heap_setCell _ _ _ j (by simp;omega),Below.heap_setCell _ _ _ j (by simp;omega)]
 ·have hk:Below w.heap.size w w5:=(Below.trans gO.out (cW.out.below.mono (by omega))).trans (BV.out.mono (by omega));exact((hk.setCell (by simp) _).setCell (by simp) _).setCell (by simp) _
theorem mj (ve vi vn:Value) (n:aj) (v u:Nat) (w:World) (h:aC w ve vi vn n) (hv:v<n.ends.length) (KM:u<n.ends.length) (hn:pB n):
  Calls Tryz.prog 155 #[.agg #[ve,vi,vn],.int .i64 v,.int .i64 u] w (o_ w (dg n v u)):=by
 have FO:=zh hn;clear hn
 obtain⟨w0,A,c,A2,c2,A3,c3,rfl,rfl,rfl,fg,hm,f8,fP,HA,bS,aT,H,dP,d9,dV⟩:=zB h;clear h
 obtain⟨wa,jC⟩:∃wa,wa=w0.alloc (.cells #[.slice none 0 0,.slice none 0 0,.slice none 0 0] 27):=⟨_,rfl⟩
 have ll:ab w0 wa:=by rw[jC];exact ad _ (aa _)
 have kY:w0.heap.size=w.heap.size+1:=by rw[bS.out];simp
 have zH:Hid (wa.heap.size=w.heap.size+1+1):=by show _=_;rw[jC,<- kY];simp
 have CQ:Hid (∀X,ab wa X->aS X (w.heap.size+1) (.slice none 0 0) (.slice none 0 0) (.slice none 0 0)):=fun X hX=>by
  refine aS.since (W:=wa) ?_ hX;rw[jC,<- kY];show(w0.heap.push _)[w0.heap.size]?=_
  rw[Array.getElem?_push_size]
 have yU:=ag dP ll;have DX:=ag d9 ll;have DY:=ag dV ll;have Bx:=zh jC;have vT:=zh ll;have gO:Hid (Below w.heap.size w wa):=Below.trans aT.out (ll.below.mono aT.out.size);clear jC ll kY dP d9 dV
 go_enter Tryz.func155,Tryz.ntmps155
 go_upto_region 1 with(fail);rw[<- bS.out,<- Bx.out];have hs:ab wa wa:=aa _;go_wp2_with fail;refine(j6 _ _ _ n wa (H.out.keep vT.out.below) FO.out.ends FO.out.row FO.out.sz).mono ?_;rintro e w1 ⟨we,wi,wn,S,rfl,ho,aN⟩;obtain⟨A1,c1,rfl,-,-,-⟩:=id ho.read.1;obtain⟨AI,cI,rfl,-,-,-⟩:=id ho.read.2.1;obtain⟨AN,cN,rfl,-,-,-⟩:=id ho.read.2.2;obtain⟨g,rfl,-⟩:=ho.head (by omega);obtain⟨base,gY⟩:∃base,base=wa.heap.size:=⟨_,rfl⟩
 rw[<- gY]at ho;have dr:ab wa w1:=hs.trans aN;obtain⟨w2,iY⟩:∃z,z=w1.alloc (.cells #[.slice (some ⟨g,0,none⟩) n.ends.length c1,.slice AI n.ids.length cI,.slice AN n.acn.length cN] 27):=⟨_,rfl⟩
 obtain⟨bo,uV⟩:∃z,z=w1.heap.size:=⟨_,rfl⟩
 have kb:ab w1 w2:=by rw[iY];exact ad _ (aa _)
 have yI:aY w2 bo (.slice (some ⟨g,0,none⟩) n.ends.length c1) (.slice AI n.ids.length cI) (.slice AN n.acn.length cN):=by rw[iY,uV];exact aY.new _ _ _ _ _
 have J7:bo∉S:=fun hj=>by have:=(ho.range _ hj).2;omega
 have ms:=zh gY;have xQ:=zh iY;have Po:=zh uV;have pu:=zh (ho.keep kb.below);have BS:=zh yI;have zN:=zh J7;have cW:=zh (dr.after kb)
 have ze:Hid (base<=bo/\bo<w2.heap.size):=⟨by rw[gY,uV];exact dr.below.size,by rw[iY,uV];simp⟩
 have mC:=cD hv;obtain⟨xv,pE⟩:∃x,x=cH n v:=⟨_,rfl⟩
 rw[<- pE]at mC;have H6:=zh pE;have QT:=zh mC;have uW:Hid (xv.length<=1000):=FO.out.row _ _ mC;clear gY iY uV ho yI J7 dr kb aN hs pE mC yU DX DY
 have H7:=cD KM;obtain⟨xu,pE⟩:∃x,x=cH n u:=⟨_,rfl⟩
 rw[<- pE]at H7;have Rb:=zh pE;have HXu:=zh H7;have Rc:Hid (xu.length<=1000):=FO.out.row _ _ H7;have vP:=uW.out;have El:=Rc.out
 have SR:Hid (xv.length+1<=1000000):=by show _<=_;omega
 have uX:Hid (base<=w2.heap.size):=by show _<=_;have:=ze.out;omega
 have m1:IntKind.i64.wrap ((xu.length:Int)+1)=(xu.length:Int)+1:=aH _ (by omega) (by omega);clear vP El pE H7;obtain⟨uv,Tv,Yb,-,hRv,-,-,-⟩:=pu.out.acs QT.out;obtain⟨Av,cv,rfl,-,-,-⟩:=id hRv.read;obtain⟨uu,Tu,eQ,-,hRu,-,-,-⟩:=pu.out.acs HXu.out;obtain⟨Au,cu,rfl,-,-,-⟩:=id hRu.read;have dT:=BS.out.cells.1;clear hRv hRu
 by_cases Vz:v=u
 ·subst Vz;obtain rfl:xv=xu:=by rw[Rb.out,H6.out]
  go_upto_region 2 with(fail);rw[<- xQ.out,<- Po.out];have htt:((v:Int)=(v:Int))=True:=by simp
  go_upto_region 6 with(fail);clear Yb eQ dT htt;obtain⟨u2,T2,yl,GD,FP,pF,uY,qV,ky⟩:=pu.out.acw QT.out;obtain⟨sq,sr,rfl,-,-,-⟩:=id FP.read;have Eo:=zh FP;have pG:=zh ky;have BU:g≠bo:=fun h=>zN.out (h ▸ qV)
  have Vw:=zh BU;have Ep:=zh uY;have Er:=zh qV;have Es:=zh pF;have KK:=zh yl;have Ra:=zh GD;have Et:Hid (bo∉T2):=fun h=>zN.out (pF _ h)
  have wU:=zh (aY.cells BS.out);clear BU uY qV pF yl GD FP ky;refine ax (fun W=>W.cell? ⟨bo,0,none⟩=some (.slice (some ⟨g,0,none⟩) n.ends.length c1)/\W.cell? ⟨g,v,none⟩=some (.slice sq xv.length sr)) 13 [false,false,false,false,false,false,false,false,false,false,false,true,true] (by kernel_rfl) (by kernel_rfl) (show(World.drew w2).cell? ⟨bo,0,none⟩=some (.slice (some ⟨g,0,none⟩) n.ends.length c1)/\(World.drew w2).cell? ⟨g,v,none⟩=some (.slice sq xv.length sr)from⟨wU.out.1,KK.out⟩) ?_
  simp only[er,dS,zT]
  iterate 11 (apply bs rfl;(intro W hW;(obtain⟨k0,k1⟩:=hW);go_simp;with_reducible rfl);simp only[zA])
  obtain⟨W,cS⟩:∃W,W=World.drew w2:=⟨_,rfl⟩
  rw[<- cS];have hW:=(show(World.drew w2).cell? ⟨bo,0,none⟩=some (.slice (some ⟨g,0,none⟩) n.ends.length c1)/\(World.drew w2).cell? ⟨g,v,none⟩=some (.slice sq xv.length sr)from⟨wU.out.1,KK.out⟩);rw[<- cS]at hW;have eY:=zh cS;clear cS
  refine ch (v:=?_) (ob:=?_) rfl ?_ ?_ ?_;rotate_left 2
  (go_simp;first | with_reducible rfl | (refine⟨?_,?_⟩ <;> with_reducible rfl))
  exact⟨bc (ai _ _) hW.1,bc (ai _ _) hW.2⟩;intro w8 jk jD
  replace hW:=jD
  clear jD
  have uZ:Hid (w8=(World.drew w2).alloc (.cells #[.int .i64 (v:Int),.int .i64 ((xv.length:Int)+1)] 83)):=by show _=_;rw[jk,eY.out]
  have iS:Hid (ab w2 w8):=by show ab _ _;rw[uZ.out];exact ad _ (ah (aa _))
  have pR:Hid (dU w8 base (.slice sq xv.length sr) xv T2):=gj.keep Eo.out iS.out.below
  have u_:Hid (w8.cell? ⟨w2.heap.size,0,none⟩=some (.int .i64 (v:Int))/\w8.cell? ⟨w2.heap.size,1,none⟩=some (.int .i64 ((xv.length:Int)+1))):=by show _/\_;rw[uZ.out];exact il (World.drew w2) _ _ _
  rw[show W.heap.size=w2.heap.size from by rw[eY.out];rfl]
  clear jk eY
  (try simp only[zA])
  refine df (fun Q' HQ=>?_)
  (refine im (base:=base) (v:=.slice sq xv.length sr) (xs:=xv) rfl _ _ rfl rfl pR.out w2.heap.size ((v:Int),((xv.length:Int)+1)) rfl u_.out.1 u_.out.2 SR.out (Nat.le_trans uX.out iS.out.below.size) ?_);intro g9 zb w9 gP lu pD;have dL:=aX.acq lu;have nq:(Value.slice sq xv.length sr).ownBlock.toList=T2:=(Eo.out.2).symm;have jU:(⟨bo,0,none⟩:Addr).block∉(Value.slice sq xv.length sr).ownBlock.toList:=(by rw[nq];exact Et.out);have mi:(⟨g,v,none⟩:Addr).block∉(Value.slice sq xv.length sr).ownBlock.toList:=(by rw[nq];exact Ep.out);have kJ:=dL.cell jU hW.1;have nO:=dL.cell mi hW.2;have CN:=dL.fz mi hW.2 (bf iS.out.below KK.out Ra.out);refine HQ _ _ ⟨kJ,nO⟩ ?_;have oz:=zh (k9 pG.out Eo.out iS.out gP lu pD Es.out Er.out);clear gP lu pD jU mi dL nq hW
  (try simp only[zA])
  simp only[bh];go_upto_region 7 with(fail);obtain⟨Vx,dh,dt,oU⟩:=oz.out;obtain⟨w5,hw⟩:∃z,z=w9.setCell ⟨g,v,none⟩ (.slice (some ⟨g9,0,none⟩) (xv.length+1) zb):=⟨_,rfl⟩
  rw[<- hw]at dh oU ⊢;have KL:=zh dh;have NG:=zh dt;have ss:=zh oU;clear hw dh dt oU oz kJ nO CN
  have KN:Hid (aY w5 bo (.slice (some ⟨g,0,none⟩) n.ends.length c1) (.slice AI n.ids.length cI) (.slice AN n.acn.length cN)):=by obtain⟨r,hr⟩:=BS.out;exact⟨r,(ss.out.block bo ze.out.2 zN.out).trans hr⟩
  have Bz:Hid (bo∉Vx):=fun hj=>by
   have h2:=ze.out;rcases NG.out _ hj with h1 | h1
   ·exact zN.out h1
   ·omega
  obtain⟨xw,NH⟩:∃z,z=xv++[((v:Int),(xv.length:Int)+1)]:=⟨_,rfl⟩
  have Re:Hid ((n.ends.set v (xv++[((v:Int),((xv.length:Int)+1))]))[v]?=some xw):=by show _=_;rw[NH];rw[List.getElem?_set_self (by omega)]
  have VA:Hid (xw.length+1<=1000000):=by show _<=_;have h1:=uW.out;have h2:=Rc.out;rw[NH];simp;omega
  have vb:Hid (Below base w2 w5):=ss.out.below base uX.out (fun j hj=>(pu.out.range j hj).1)
  have zf:Hid (base<=w5.heap.size):=Nat.le_trans uX.out vb.out.size;have Hxw:=zh NH;clear NH;have Pq:=KL;obtain⟨u5,T5,Pr,Ps,KO,sQ,BW,wW,nt⟩:=Pq.out.acw Re.out;obtain⟨ri,rj,rfl,-,-,-⟩:=id KO.read;have KP:=zh KO;have vc:=zh nt;have KQ:g≠bo:=fun h=>Bz.out (h ▸ wW)
  have aat:=zh KQ;have KR:=zh BW;have KS:=zh wW;have KT:=zh sQ;have KU:=zh Pr;have VB:=zh Ps;have KV:Hid (bo∉T5):=fun h=>Bz.out (sQ _ h)
  have Pt:=zh (aY.cells KN.out);clear KQ BW wW sQ Pr Ps KO nt;refine ax (fun W=>W.cell? ⟨bo,0,none⟩=some (.slice (some ⟨g,0,none⟩) n.ends.length c1)/\W.cell? ⟨g,v,none⟩=some (.slice ri xw.length rj)) 13 [false,false,false,false,false,false,false,false,false,false,false,true,true] (by kernel_rfl) (by kernel_rfl) (show(World.drew w5).cell? ⟨bo,0,none⟩=some (.slice (some ⟨g,0,none⟩) n.ends.length c1)/\(World.drew w5).cell? ⟨g,v,none⟩=some (.slice ri xw.length rj)from⟨Pt.out.1,KU.out⟩) ?_
  simp only[er,dS,zT]
  iterate 11 (apply bs rfl;(intro W hW;(obtain⟨k0,k1⟩:=hW);go_simp;with_reducible rfl);simp only[zA])
  obtain⟨W,cS⟩:∃W,W=World.drew w5:=⟨_,rfl⟩
  rw[<- cS];have hW:=(show(World.drew w5).cell? ⟨bo,0,none⟩=some (.slice (some ⟨g,0,none⟩) n.ends.length c1)/\(World.drew w5).cell? ⟨g,v,none⟩=some (.slice ri xw.length rj)from⟨Pt.out.1,KU.out⟩);rw[<- cS]at hW;have eY:=zh cS;clear cS
  refine ch (v:=?_) (ob:=?_) rfl ?_ ?_ ?_;rotate_left 2
  (go_simp;first | with_reducible rfl | (refine⟨?_,?_⟩ <;> with_reducible rfl))
  exact⟨bc (ai _ _) hW.1,bc (ai _ _) hW.2⟩;intro w8 jk jD
  replace hW:=jD
  clear jD
  have uZ:Hid (w8=(World.drew w5).alloc (.cells #[.int .i64 (v:Int),.int .i64 (xv.length:Int)] 83)):=by show _=_;rw[jk,eY.out]
  have iS:Hid (ab w5 w8):=by show ab _ _;rw[uZ.out];exact ad _ (ah (aa _))
  have pR:Hid (dU w8 base (.slice ri xw.length rj) xw T5):=gj.keep KP.out iS.out.below
  have u_:Hid (w8.cell? ⟨w5.heap.size,0,none⟩=some (.int .i64 (v:Int))/\w8.cell? ⟨w5.heap.size,1,none⟩=some (.int .i64 (xv.length:Int))):=by show _/\_;rw[uZ.out];exact il (World.drew w5) _ _ _
  rw[show W.heap.size=w5.heap.size from by rw[eY.out];rfl]
  clear jk eY
  (try simp only[zA])
  refine df (fun Q' HQ=>?_)
  (refine im (base:=base) (v:=.slice ri xw.length rj) (xs:=xw) rfl _ _ rfl rfl pR.out w5.heap.size ((v:Int),(xv.length:Int)) rfl u_.out.1 u_.out.2 VA.out (Nat.le_trans zf.out iS.out.below.size) ?_);intro g9 zb w9 gP lu pD;have dL:=aX.acq lu;have nq:(Value.slice ri xw.length rj).ownBlock.toList=T5:=(KP.out.2).symm;have jU:(⟨bo,0,none⟩:Addr).block∉(Value.slice ri xw.length rj).ownBlock.toList:=(by rw[nq];exact KV.out);have mi:(⟨g,v,none⟩:Addr).block∉(Value.slice ri xw.length rj).ownBlock.toList:=(by rw[nq];exact KR.out);have kJ:=dL.cell jU hW.1;have nO:=dL.cell mi hW.2;have CN:=dL.fz mi hW.2 (bf iS.out.below KU.out VB.out);refine HQ _ _ ⟨kJ,nO⟩ ?_;have oz:=zh (k9 vc.out KP.out iS.out gP lu pD KT.out KS.out);clear gP lu pD jU mi dL nq hW
  (try simp only[zA])
  simp only[bh];go_upto_region 8 with(fail);obtain⟨Sw7,dh,dt,oU⟩:=oz.out;obtain⟨w7,hw⟩:∃z,z=w9.setCell ⟨g,v,none⟩ (.slice (some ⟨g9,0,none⟩) (xw.length+1) zb):=⟨_,rfl⟩
  rw[<- hw]at dh oU ⊢;have Rf:=zh dh;have aau:=zh dt;have BX:=zh oU;clear hw dh dt oU oz kJ nO CN
  have Pp:Hid (ar w7 base (.slice (some ⟨g,0,none⟩) n.ends.length c1) (.slice AI n.ids.length cI) (.slice AN n.acn.length cN) (dg n v v) Sw7):=by
   have h1:=Rf.out
   have e:({ ends:=(n.ends.set v (xv++[((v:Int),((xv.length:Int)+1))])).set v (xw++[((v:Int),(xv.length:Int))]),ids:=n.ids,acn:=n.acn }:aj)=dg n v v:=by
    have h2:=Re.out
    have h3:cH ({ ends:=n.ends.set v (xv++[((v:Int),((xv.length:Int)+1))]),ids:=n.ids,acn:=n.acn }:aj) v=xw:=by unfold cH;rw[zDd];show((n.ends.set v _)[v]?).getD []=xw;rw[h2];rfl
    unfold dg;rw[if_pos rfl,<- H6.out];unfold pC;rw[<- H6.out,h3]
   rw[<- e];exact h1
  have Vy:Hid (aY w7 bo (.slice (some ⟨g,0,none⟩) n.ends.length c1) (.slice AI n.ids.length cI) (.slice AN n.acn.length cN)):=by obtain⟨r,hr⟩:=KN.out;exact⟨r,(BX.out.block bo (by have:=ze.out;have:=vb.out.size;omega) Bz.out).trans hr⟩
  have BV:Hid (Below base w2 w7):=vb.out.trans (BX.out.below base zf.out (fun j hj=>(Pq.out.range j hj).1))
  have dJ:aS w7 (w.heap.size+1) (.slice none 0 0) (.slice none 0 0) (.slice none 0 0):=(BV.out.block _ (by have h2:=ms.out;have h3:=zH.out;omega)).trans (CQ.out w2 cW.out)
  obtain⟨d0,d1,d2,-,-,-⟩:=Vy.out.cells;obtain⟨e0,e1,e2,f0,f1,f2⟩:=dJ.box.cells;clear dJ;go_wp2;refine bodyPost_ret (v:=.agg #[.slice (some ⟨g,0,none⟩) n.ends.length c1,.slice AI n.ids.length cI,.slice AN n.acn.length cN]) (by simp[results,Tryz.results155,go_sem, *]) rfl ?_;have hbz:=ms.out;have Yy:=zH.out;refine⟨_,_,_,_,rfl,(Pp.out.aco (fun j hj=>?_)).mono (show w.heap.size<=base by omega),?_⟩
  ·have rz:=(Pp.out.range j hj).1;rw[Below.heap_setCell _ _ _ j (by simp;omega),Below.heap_setCell _ _ _ j (by simp;omega),Below.heap_setCell _ _ _ j (by simp;omega)]
  ·have hk:Below w.heap.size w w7:=(Below.trans gO.out (cW.out.below.mono (by omega))).trans (BV.out.mono (by omega));exact((hk.setCell (by simp) _).setCell (by simp) _).setCell (by simp) _
 ·have iJ:((v:Int)=(u:Int))=False:=by simp;omega
  go_upto_region 2 with(fail);rw[<- xQ.out,<- Po.out];go_upto_region 6 with(fail);clear Yb eQ dT iJ;obtain⟨u2,T2,yl,GD,FP,pF,uY,qV,ky⟩:=pu.out.acw QT.out;obtain⟨sq,sr,rfl,-,-,-⟩:=id FP.read;have Eo:=zh FP;have pG:=zh ky;have BU:g≠bo:=fun h=>zN.out (h ▸ qV)
  have Vw:=zh BU;have Ep:=zh uY;have Er:=zh qV;have Es:=zh pF;have KK:=zh yl;have Ra:=zh GD;have Et:Hid (bo∉T2):=fun h=>zN.out (pF _ h)
  have wU:=zh (aY.cells BS.out);clear BU uY qV pF yl GD FP ky;refine ax (fun W=>W.cell? ⟨bo,0,none⟩=some (.slice (some ⟨g,0,none⟩) n.ends.length c1)/\W.cell? ⟨g,v,none⟩=some (.slice sq xv.length sr)) 13 [false,false,false,false,false,false,false,false,false,false,false,true,true] (by kernel_rfl) (by kernel_rfl) (show(World.drew w2).cell? ⟨bo,0,none⟩=some (.slice (some ⟨g,0,none⟩) n.ends.length c1)/\(World.drew w2).cell? ⟨g,v,none⟩=some (.slice sq xv.length sr)from⟨wU.out.1,KK.out⟩) ?_
  simp only[er,dS,zT]
  iterate 11 (apply bs rfl;(intro W hW;(obtain⟨k0,k1⟩:=hW);go_simp;with_reducible rfl);simp only[zA])
  obtain⟨W,cS⟩:∃W,W=World.drew w2:=⟨_,rfl⟩
  rw[<- cS];have hW:=(show(World.drew w2).cell? ⟨bo,0,none⟩=some (.slice (some ⟨g,0,none⟩) n.ends.length c1)/\(World.drew w2).cell? ⟨g,v,none⟩=some (.slice sq xv.length sr)from⟨wU.out.1,KK.out⟩);rw[<- cS]at hW;have eY:=zh cS;clear cS
  refine ch (v:=?_) (ob:=?_) rfl ?_ ?_ ?_;rotate_left 2
  (go_simp;first | with_reducible rfl | (refine⟨?_,?_⟩ <;> with_reducible rfl))
  exact⟨bc (ai _ _) hW.1,bc (ai _ _) hW.2⟩;intro w8 jk jD
  replace hW:=jD
  clear jD
  have uZ:Hid (w8=(World.drew w2).alloc (.cells #[.int .i64 (u:Int),.int .i64 (xu.length:Int)] 83)):=by show _=_;rw[jk,eY.out]
  have iS:Hid (ab w2 w8):=by show ab _ _;rw[uZ.out];exact ad _ (ah (aa _))
  have pR:Hid (dU w8 base (.slice sq xv.length sr) xv T2):=gj.keep Eo.out iS.out.below
  have u_:Hid (w8.cell? ⟨w2.heap.size,0,none⟩=some (.int .i64 (u:Int))/\w8.cell? ⟨w2.heap.size,1,none⟩=some (.int .i64 (xu.length:Int))):=by show _/\_;rw[uZ.out];exact il (World.drew w2) _ _ _
  rw[show W.heap.size=w2.heap.size from by rw[eY.out];rfl]
  clear jk eY
  (try simp only[zA])
  refine df (fun Q' HQ=>?_)
  (refine im (base:=base) (v:=.slice sq xv.length sr) (xs:=xv) rfl _ _ rfl rfl pR.out w2.heap.size ((u:Int),(xu.length:Int)) rfl u_.out.1 u_.out.2 SR.out (Nat.le_trans uX.out iS.out.below.size) ?_);intro g9 zb w9 gP lu pD;have dL:=aX.acq lu;have nq:(Value.slice sq xv.length sr).ownBlock.toList=T2:=(Eo.out.2).symm;have jU:(⟨bo,0,none⟩:Addr).block∉(Value.slice sq xv.length sr).ownBlock.toList:=(by rw[nq];exact Et.out);have mi:(⟨g,v,none⟩:Addr).block∉(Value.slice sq xv.length sr).ownBlock.toList:=(by rw[nq];exact Ep.out);have kJ:=dL.cell jU hW.1;have nO:=dL.cell mi hW.2;have CN:=dL.fz mi hW.2 (bf iS.out.below KK.out Ra.out);refine HQ _ _ ⟨kJ,nO⟩ ?_;have oz:=zh (k9 pG.out Eo.out iS.out gP lu pD Es.out Er.out);clear gP lu pD jU mi dL nq hW
  (try simp only[zA])
  simp only[bh];go_upto_region 7 with(fail);obtain⟨Vx,dh,dt,oU⟩:=oz.out;obtain⟨w5,hw⟩:∃z,z=w9.setCell ⟨g,v,none⟩ (.slice (some ⟨g9,0,none⟩) (xv.length+1) zb):=⟨_,rfl⟩
  rw[<- hw]at dh oU ⊢;have KL:=zh dh;have NG:=zh dt;have ss:=zh oU;clear hw dh dt oU oz kJ nO CN
  have KN:Hid (aY w5 bo (.slice (some ⟨g,0,none⟩) n.ends.length c1) (.slice AI n.ids.length cI) (.slice AN n.acn.length cN)):=by obtain⟨r,hr⟩:=BS.out;exact⟨r,(ss.out.block bo ze.out.2 zN.out).trans hr⟩
  have Bz:Hid (bo∉Vx):=fun hj=>by
   have h2:=ze.out;rcases NG.out _ hj with h1 | h1
   ·exact zN.out h1
   ·omega
  obtain⟨xw,NH⟩:∃z,z=xu:=⟨_,rfl⟩
  have Re:Hid ((n.ends.set v (xv++[((u:Int),(xu.length:Int))]))[u]?=some xw):=by show _=_;rw[NH];rw[List.getElem?_set_ne Vz];exact HXu.out
  have VA:Hid (xw.length+1<=1000000):=by show _<=_;have h1:=uW.out;have h2:=Rc.out;rw[NH];omega
  have vb:Hid (Below base w2 w5):=ss.out.below base uX.out (fun j hj=>(pu.out.range j hj).1)
  have zf:Hid (base<=w5.heap.size):=Nat.le_trans uX.out vb.out.size;have Hxw:=zh NH;clear NH;have Pq:=KL;obtain⟨u5,T5,Pr,Ps,KO,sQ,BW,wW,nt⟩:=Pq.out.acw Re.out;obtain⟨ri,rj,rfl,-,-,-⟩:=id KO.read;have KP:=zh KO;have vc:=zh nt;have KQ:g≠bo:=fun h=>Bz.out (h ▸ wW)
  have aat:=zh KQ;have KR:=zh BW;have KS:=zh wW;have KT:=zh sQ;have KU:=zh Pr;have VB:=zh Ps;have KV:Hid (bo∉T5):=fun h=>Bz.out (sQ _ h)
  have Pt:=zh (aY.cells KN.out);clear KQ BW wW sQ Pr Ps KO nt;refine ax (fun W=>W.cell? ⟨bo,0,none⟩=some (.slice (some ⟨g,0,none⟩) n.ends.length c1)/\W.cell? ⟨g,u,none⟩=some (.slice ri xw.length rj)) 13 [false,false,false,false,false,false,false,false,false,false,false,true,true] (by kernel_rfl) (by kernel_rfl) (show(World.drew w5).cell? ⟨bo,0,none⟩=some (.slice (some ⟨g,0,none⟩) n.ends.length c1)/\(World.drew w5).cell? ⟨g,u,none⟩=some (.slice ri xw.length rj)from⟨Pt.out.1,KU.out⟩) ?_
  simp only[er,dS,zT]
  iterate 11 (apply bs rfl;(intro W hW;(obtain⟨k0,k1⟩:=hW);go_simp;with_reducible rfl);simp only[zA])
  obtain⟨W,cS⟩:∃W,W=World.drew w5:=⟨_,rfl⟩
  rw[<- cS];have hW:=(show(World.drew w5).cell? ⟨bo,0,none⟩=some (.slice (some ⟨g,0,none⟩) n.ends.length c1)/\(World.drew w5).cell? ⟨g,u,none⟩=some (.slice ri xw.length rj)from⟨Pt.out.1,KU.out⟩);rw[<- cS]at hW;have eY:=zh cS;clear cS
  refine ch (v:=?_) (ob:=?_) rfl ?_ ?_ ?_;rotate_left 2
  (go_simp;first | with_reducible rfl | (refine⟨?_,?_⟩ <;> with_reducible rfl))
  exact⟨bc (ai _ _) hW.1,bc (ai _ _) hW.2⟩;intro w8 jk jD
  replace hW:=jD
  clear jD
  have uZ:Hid (w8=(World.drew w5).alloc (.cells #[.int .i64 (v:Int),.int .i64 (xv.length:Int)] 83)):=by show _=_;rw[jk,eY.out]
  have iS:Hid (ab w5 w8):=by show ab _ _;rw[uZ.out];exact ad _ (ah (aa _))
  have pR:Hid (dU w8 base (.slice ri xw.length rj) xw T5):=gj.keep KP.out iS.out.below
  have u_:Hid (w8.cell? ⟨w5.heap.size,0,none⟩=some (.int .i64 (v:Int))/\w8.cell? ⟨w5.heap.size,1,none⟩=some (.int .i64 (xv.length:Int))):=by show _/\_;rw[uZ.out];exact il (World.drew w5) _ _ _
  rw[show W.heap.size=w5.heap.size from by rw[eY.out];rfl]
  clear jk eY
  (try simp only[zA])
  refine df (fun Q' HQ=>?_)
  (refine im (base:=base) (v:=.slice ri xw.length rj) (xs:=xw) rfl _ _ rfl rfl pR.out w5.heap.size ((v:Int),(xv.length:Int)) rfl u_.out.1 u_.out.2 VA.out (Nat.le_trans zf.out iS.out.below.size) ?_);intro g9 zb w9 gP lu pD;have dL:=aX.acq lu;have nq:(Value.slice ri xw.length rj).ownBlock.toList=T5:=(KP.out.2).symm;have jU:(⟨bo,0,none⟩:Addr).block∉(Value.slice ri xw.length rj).ownBlock.toList:=(by rw[nq];exact KV.out);have mi:(⟨g,u,none⟩:Addr).block∉(Value.slice ri xw.length rj).ownBlock.toList:=(by rw[nq];exact KR.out);have kJ:=dL.cell jU hW.1;have nO:=dL.cell mi hW.2;have CN:=dL.fz mi hW.2 (bf iS.out.below KU.out VB.out);refine HQ _ _ ⟨kJ,nO⟩ ?_;have oz:=zh (k9 vc.out KP.out iS.out gP lu pD KT.out KS.out);clear gP lu pD jU mi dL nq hW
  (try simp only[zA])
  simp only[bh];go_upto_region 8 with(fail);obtain⟨Sw7,dh,dt,oU⟩:=oz.out;obtain⟨w7,hw⟩:∃z,z=w9.setCell ⟨g,u,none⟩ (.slice (some ⟨g9,0,none⟩) (xw.length+1) zb):=⟨_,rfl⟩
  rw[<- hw]at dh oU ⊢;have Rf:=zh dh;have aau:=zh dt;have BX:=zh oU;clear hw dh dt oU oz kJ nO CN
  have Pp:Hid (ar w7 base (.slice (some ⟨g,0,none⟩) n.ends.length c1) (.slice AI n.ids.length cI) (.slice AN n.acn.length cN) (dg n v u) Sw7):=by
   have h1:=Rf.out
   have e:({ ends:=(n.ends.set v (xv++[((u:Int),(xu.length:Int))])).set u (xw++[((v:Int),(xv.length:Int))]),ids:=n.ids,acn:=n.acn }:aj)=dg n v u:=by
    have h2:=Re.out
    have h3:cH ({ ends:=n.ends.set v (xv++[((u:Int),(xu.length:Int))]),ids:=n.ids,acn:=n.acn }:aj) u=xw:=by unfold cH;rw[zDd];show((n.ends.set v _)[u]?).getD []=xw;rw[h2];rfl
    unfold dg;rw[if_neg Vz,<- H6.out,<- Rb.out];unfold pC;rw[<- H6.out,h3]
   rw[<- e];exact h1
  have Vy:Hid (aY w7 bo (.slice (some ⟨g,0,none⟩) n.ends.length c1) (.slice AI n.ids.length cI) (.slice AN n.acn.length cN)):=by obtain⟨r,hr⟩:=KN.out;exact⟨r,(BX.out.block bo (by have:=ze.out;have:=vb.out.size;omega) Bz.out).trans hr⟩
  have BV:Hid (Below base w2 w7):=vb.out.trans (BX.out.below base zf.out (fun j hj=>(Pq.out.range j hj).1))
  have dJ:aS w7 (w.heap.size+1) (.slice none 0 0) (.slice none 0 0) (.slice none 0 0):=(BV.out.block _ (by have h2:=ms.out;have h3:=zH.out;omega)).trans (CQ.out w2 cW.out)
  obtain⟨d0,d1,d2,-,-,-⟩:=Vy.out.cells;obtain⟨e0,e1,e2,f0,f1,f2⟩:=dJ.box.cells;clear dJ;go_wp2;refine bodyPost_ret (v:=.agg #[.slice (some ⟨g,0,none⟩) n.ends.length c1,.slice AI n.ids.length cI,.slice AN n.acn.length cN]) (by simp[results,Tryz.results155,go_sem, *]) rfl ?_;have hbz:=ms.out;have Yy:=zH.out;refine⟨_,_,_,_,rfl,(Pp.out.aco (fun j hj=>?_)).mono (show w.heap.size<=base by omega),?_⟩
  ·have rz:=(Pp.out.range j hj).1;rw[Below.heap_setCell _ _ _ j (by simp;omega),Below.heap_setCell _ _ _ j (by simp;omega),Below.heap_setCell _ _ _ j (by simp;omega)]
  ·have hk:Below w.heap.size w w7:=(Below.trans gO.out (cW.out.below.mono (by omega))).trans (BV.out.mono (by omega));exact((hk.setCell (by simp) _).setCell (by simp) _).setCell (by simp) _
def Eu (n:aj) (e:Int×Int):Prop:=∃(a b:Nat) (fs:List (Int×Int)),e=((a:Int),(b:Int))/\n.ends[a]?=some fs/\b<fs.length
def Mn (n:aj):Prop:=∀(k:Nat) (es:List (Int×Int)),n.ends[k]?=some es->∀e∈es,Eu n e
def nu (n N:aj):Prop:=∀(k:Nat) (es:List (Int×Int)),N.ends[k]?=some es->∀e∈es,Eu n e
structure jl (n N:aj):Prop where
 ids:N.ids=n.ids
 acn:N.acn=n.acn
 len:N.ends.length=n.ends.length
 row:∀(k:Nat) (es:List (Int×Int)),n.ends[k]?=some es->∃fs,N.ends[k]?=some fs/\fs.length=es.length
theorem jl.refl (n:aj):jl n n:=⟨rfl,rfl,rfl,fun _ es h=>⟨es,h,rfl⟩⟩
theorem Eu.sh {n N:aj} (h:jl n N) {e:Int×Int} (he:Eu n e):Eu N e:=by
 obtain⟨a,b,fs,h1,h2,h3⟩:=he;obtain⟨gs,h4,h5⟩:=h.row a fs h2;exact⟨a,b,gs,h1,h4,by omega⟩
theorem nu.wf {n N:aj} (h:jl n N) (ha:nu n N):Mn N:=fun k es he e hm=>(ha k es he e hm).sh h
theorem jl.put {n N:aj} (h:jl n N) {k j:Nat} {es:List (Int×Int)} (hx:N.ends[k]?=some es) (y:Int×Int):jl n { N with ends:=N.ends.set k (es.set j y) }:=⟨h.ids,h.acn,by show(N.ends.set k _).length=_;rw[List.length_set];exact h.len,fun q fs hq=>by
 obtain⟨gs,h1,h2⟩:=h.row q fs hq
 by_cases e:q=k
 ·subst e;refine⟨es.set j y,?_,?_⟩
  ·show(N.ends.set q _)[q]?=_
   rw[List.getElem?_set_self (al hx)]
  ·rw[hx]at h1;cases h1;rw[List.length_set];exact h2
 ·exact⟨gs,by show(N.ends.set k _)[q]?=_;rw[List.getElem?_set_ne (Ne.symm e)];exact h1,h2⟩⟩
theorem nu.put {n N:aj} (h:nu n N) {k j:Nat} {es:List (Int×Int)} (hx:N.ends[k]?=some es) {y:Int×Int} (hy:Eu n y):nu n { N with ends:=N.ends.set k (es.set j y) }:=fun q fs hq e he=>by
 by_cases hqk:q=k
 ·subst hqk;have Pj:(N.ends.set q (es.set j y))[q]?=some fs:=hq;rw[List.getElem?_set_self (al hx)]at Pj;cases Pj;rcases List.mem_or_eq_of_mem_set he with h1 | h1
  ·exact h q es hx e h1
  ·rw[h1];exact hy
 ·have Pj:(N.ends.set k (es.set j y))[q]?=some fs:=hq;rw[List.getElem?_set_ne (Ne.symm hqk)]at Pj;exact h q fs Pj e he
structure Cp (wa W:World) (ob g c m:Nat) (vi vn:Value) (N:aj) (S:List Nat):Prop where
 own:ar W wa.heap.size (.slice (some ⟨g,0,none⟩) m c) vi vn N S
 box:aY W ob (.slice (some ⟨g,0,none⟩) m c) vi vn
 nb:ob∉S
 since:ab wa W
theorem Cp.keep {wa W W':World} {ob g c m:Nat} {vi vn:Value} {N:aj} {S:List Nat} (h:Cp wa W ob g c m vi vn N S) (hs:ab W W'):Cp wa W' ob g c m vi vn N S:=
 ⟨h.own.keep hs.below,h.box.below hs h.box.lt,h.nb,h.since.after hs⟩
theorem Cp.put {wa W:World} {ob g c m:Nat} {vi vn:Value} {N:aj} {S:List Nat} (h:Cp wa W ob g c m vi vn N S) {p:Addr} (hp:wa.heap.size<=p.block) (hS:p.block∉S) (ho:p.block≠ob) (u:Value):Cp wa (W.setCell p u) ob g c m vi vn N S:=
 ⟨h.own.aco (fun k hk=>Below.heap_setCell _ _ _ _ (fun e=>hS (e ▸ hk))),h.box.set ho,h.nb,h.since.setCell hp _⟩
theorem Cp.port {wa W:World} {ob g c m:Nat} {vi vn:Value} {N:aj} {S:List Nat} (h:Cp wa W ob g c m vi vn N S) {k j:Nat} {es:List (Int×Int)} (hx:N.ends[k]?=some es) (hj:j<es.length):
  ∃gr cr:Nat,W.cell? ⟨g,k,none⟩=some (.slice (some ⟨gr,0,none⟩) es.length cr)/\es.length<=cr/\cr<=9223372036854775807/\gr∈S/\g≠gr/\gr≠ob/\W.frozen? ⟨gr,j*2,none⟩=false/\W.frozen? ⟨gr,j*2+1,none⟩=false/\(∃z,W.cell? ⟨gr,j*2,none⟩=some z)/\(∃z,W.cell? ⟨gr,j*2+1,none⟩=some z) /\
   ∀y:Int×Int,Cp wa ((W.setCell ⟨gr,j*2,none⟩ (.int .i64 y.1)).setCell ⟨gr,j*2+1,none⟩ (.int .i64 y.2)) ob g c m vi vn { N with ends:=N.ends.set k (es.set j y) } S:=by
 obtain⟨gr,cr,c1,c2,c3,c4,c5,c6,⟨c7,c8⟩,c9,c10,tp⟩:=h.own.acD hx hj;have hgs:wa.heap.size<=gr:=(h.own.range gr c5).1;have hn:gr≠ob:=fun e=>h.nb (e ▸ c5)
 unfold maxLen at c3;exact⟨gr,cr,c1,c2,by omega,c5,c6,hn,c7,c8,c9,c10,fun y=>⟨tp y,(h.box.set hn).set hn,h.nb,(h.since.setCell hgs _).setCell hgs _⟩⟩
end Go.Proofs.YtgmdpppljkmabaaGreat
