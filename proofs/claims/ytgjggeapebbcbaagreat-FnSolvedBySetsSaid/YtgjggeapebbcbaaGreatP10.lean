/- Parts of the proof: walks of functions and plain laws. -/
import Derived.Test.YtgjggeapebbcbaaGreatP0
import Derived.Test.YtgjggeapebbcbaaGreatP9
import Derived.Test.YtgjggeapebbcbaaGreatP2
import Derived.Laws.Bits64b
import Derived.Test.YtgjggeapebbcbaaGreatP1
import Derived.Test.YtgjggeapebbcbaaGreatP7
set_option maxRecDepth 100000
set_option maxHeartbeats 16000000
namespace Go.Proofs.YtgjggeapebbcbaaGreat
open Go Go.RowKit
theorem v7 (n:Int):IntKind.u64.wrap n=n%18446744073709551616:=by simp[IntKind.wrap,IntKind.bits,IntKind.signed]
theorem BS (s b:Nat) (hb:b<256):IntKind.u64.wrap (IntKind.u64.wrap (IntKind.u64.wrap ((s:Int)*6364136223846793005)+(b:Int))+1442695040888963407)=((nx s b:Nat):Int):=by
 rw[v7,v7,v7];unfold nx;omega
theorem BU (z:Nat) (hz:z<18446744073709551616):wrap64 (bits BinOp.and IntKind.u64 ((z:Int)/1099511627776) 255)=((byteOf z:Nat):Int):=by
 have h:=bits_and_u64_nat (z/1099511627776) 255 (by omega) (by omega);have e:(((z/1099511627776:Nat)):Int)=(z:Int)/1099511627776:=by simp
 have e2:z/1099511627776 &&& 255=byteOf z:=Nat.and_two_pow_sub_one_eq_mod _ 8
 rw[e,e2]at h;rw[show((255:Nat):Int)=255 from rfl]at h;rw[h]
 have:byteOf z<256:=by unfold byteOf;omega
 unfold wrap64;omega
theorem xU (s b:Nat):nx s b<18446744073709551616:=Nat.mod_lt _ (by omega)
theorem tC (cb:Nat) (A:Option Addr) (L c p s:Nat) (w:World) (h:so w cb A L c p s) (hp:p<=4611686018427387904):
  Calls Tryz.prog 144 #[.pointer (some ⟨cb,0,none⟩)] w fun e w'=>∃x s':Nat,e=.returned (.int .i64 x)/\x<256/\so w' cb A L c (p+1) s'/\(L<=p->s'=nx s 0/\x=byteOf s')/\CB cb w.heap.size w w':=by
 obtain⟨k0,k1,k2⟩:=h.cellsOf;have p0:=ad k0;have p1:=ad k1;have p2:=ad k2;have hL:=h.len;have hc:=h.cap;have H:=zh h;clear h k0 k1 k2
 by_cases aH:p<L
 ·obtain⟨b,off,v,rfl,hb,hv,Nc,IX⟩:=H.out.code p aH;have pv:=ad hv;clear hv
  go_enter Tryz.func144,Tryz.ntmps144
  go_upto_region 2 with(fail);refine aq 10 (aa w) (by kernel_rfl) (by kernel_rfl) (by simp) (ah (ab _)) ?_;simp only[zT]
  iterate 10 (refine cY rfl ?_;simp only[zA])
  intro W hW;go_upto_region 3 with(fail);obtain⟨v,rfl⟩:∃n:Nat,v=(n:Int):=⟨v.toNat,by omega⟩
  have Fs:v<256:=by omega
  clear Nc IX;refine aq 10 (aa w) (by kernel_rfl) (by kernel_rfl) (by simp) (ah hW) ?_;simp only[zT]
  iterate 10 (refine cY rfl ?_;simp only[zA])
  clear hW;intro W2 hW
  have dx:dp W2 cb #[.slice (some ⟨b,off,none⟩) L c,.int .i64 p,.int .u64 s]:=by
   obtain⟨r,hr⟩:=H.out.cells;exact⟨r,(hW.block cb H.out.lt).trans hr⟩
  have m1:IntKind.i64.wrap ((p:Int)+1)=(p:Int)+1:=aR _ (by omega) (by omega);have m2:=BS s v (by omega);have f1:=(dx.cell 1 _ rfl).2;have f2:=(dx.cell 2 _ rfl).2;have g0:=(dx.cell 0 _ rfl).1;have g1:=(dx.cell 1 _ rfl).1;have g2:=(dx.cell 2 _ rfl).1;have Hb:=zh dx;clear dx p0 p1 p2 pv;go_upto_region 6 with(fail);obtain⟨w3,h_⟩:∃z,z=(W2.setCell ⟨cb,1,none⟩ (.int .i64 ((p:Int)+1))).setCell ⟨cb,2,none⟩ (.int .u64 (nx s v:Nat)):=⟨_,rfl⟩
  rw[<- h_]
  have aZ:dp w3 cb #[.slice (some ⟨b,off,none⟩) L c,.int .i64 ((p:Int)+1),.int .u64 (nx s v:Nat)]:=by rw[h_];exact jX (jX Hb.out 1 _) 2 _
  have kW:CB cb w.heap.size w w3:=by rw[h_];exact((CB.of hW).setCell (p:=⟨cb,1,none⟩) (.inr rfl) _).setCell (p:=⟨cb,2,none⟩) (.inr rfl) _
  have q0:=ad (aZ.cell 0 _ rfl).1;have q1:=ad (aZ.cell 1 _ rfl).1;have q2:=ad (aZ.cell 2 _ rfl).1;have uB:=zh aZ;have pr:=zh kW;clear aZ kW h_ g0 g1 g2 f1 f2 hW Hb;refine aq 10 (aa w3) (by kernel_rfl) (by kernel_rfl) (by simp) (ah (ab _)) ?_;simp only[zT]
  iterate 10 (refine cY rfl ?_;simp only[zA])
  intro W4 te
  have sd:((p:Int)+1<=(L:Int))=True:=by simp;omega
  go_wp2_with fail;go_ret;refine⟨v,nx s v,rfl,Fs,⟨?_,?_,hL,hc,xU _ _⟩,fun h=>absurd h (by omega),pr.out.trans (CB.mono (CB.of te) pr.out.size)⟩
  ·obtain⟨r,hr⟩:=uB.out;exact⟨r,(te.block cb (uB.out.lt)).trans hr⟩
  ·exact H.out.code.aab (fun k hk=>by
    have h1:=H.out.lt;have h2:=pr.out.size
    exact(te.block k (by omega)).trans (pr.out.block k (by omega) (by omega)))
 ·have hge:((p:Int)<(L:Int))=False:=by simp;omega
  go_enter Tryz.func144,Tryz.ntmps144
  go_upto_region 2 with(fail);refine aq 10 (aa w) (by kernel_rfl) (by kernel_rfl) (by simp) (ah (ab _)) ?_;simp only[zT]
  iterate 10 (refine cY rfl ?_;simp only[zA])
  intro W2 hW
  have dx:dp W2 cb #[.slice A L c,.int .i64 p,.int .u64 s]:=by
   obtain⟨r,hr⟩:=H.out.cells;exact⟨r,(hW.block cb H.out.lt).trans hr⟩
  have m1:IntKind.i64.wrap ((p:Int)+1)=(p:Int)+1:=aR _ (by omega) (by omega)
  have m2:IntKind.u64.wrap (IntKind.u64.wrap (IntKind.u64.wrap ((s:Int)*6364136223846793005))+1442695040888963407)=((nx s 0:Nat):Int):=by have:=BS s 0 (by omega);simpa using this
  have f1:=(dx.cell 1 _ rfl).2;have f2:=(dx.cell 2 _ rfl).2;have g0:=(dx.cell 0 _ rfl).1;have g1:=(dx.cell 1 _ rfl).1;have g2:=(dx.cell 2 _ rfl).1;have Hb:=zh dx;clear dx p0 p1 p2;go_upto_region 6 with(fail);obtain⟨w3,h_⟩:∃z,z=(W2.setCell ⟨cb,1,none⟩ (.int .i64 ((p:Int)+1))).setCell ⟨cb,2,none⟩ (.int .u64 (nx s 0:Nat)):=⟨_,rfl⟩
  rw[<- h_]
  have aZ:dp w3 cb #[.slice A L c,.int .i64 ((p:Int)+1),.int .u64 (nx s 0:Nat)]:=by rw[h_];exact jX (jX Hb.out 1 _) 2 _
  have kW:CB cb w.heap.size w w3:=by rw[h_];exact((CB.of hW).setCell (p:=⟨cb,1,none⟩) (.inr rfl) _).setCell (p:=⟨cb,2,none⟩) (.inr rfl) _
  have q0:=ad (aZ.cell 0 _ rfl).1;have q1:=ad (aZ.cell 1 _ rfl).1;have q2:=ad (aZ.cell 2 _ rfl).1;have uB:=zh aZ;have pr:=zh kW;clear aZ kW h_ g0 g1 g2 f1 f2 hW Hb;refine aq 10 (aa w3) (by kernel_rfl) (by kernel_rfl) (by simp) (ah (ab _)) ?_;simp only[zT]
  iterate 10 (refine cY rfl ?_;simp only[zA])
  intro W4 te
  have sd:((p:Int)+1<=(L:Int))=False:=by simp;omega
  go_wp2_with fail;go_ret
  refine⟨byteOf (nx s 0),nx s 0,by rw[BU _ (xU _ _)];rfl,by unfold byteOf;omega,⟨?_,?_,hL,hc,xU _ _⟩,fun _=>⟨rfl,rfl⟩,pr.out.trans (CB.mono (CB.of te) pr.out.size)⟩
  ·obtain⟨r,hr⟩:=uB.out;exact⟨r,(te.block cb (uB.out.lt)).trans hr⟩
  ·exact H.out.code.aab (fun k hk=>by
    have h1:=H.out.lt;have h2:=pr.out.size
    exact(te.block k (by omega)).trans (pr.out.block k (by omega) (by omega)))
theorem pt (cb:Nat) (A:Option Addr) (L c p s n:Nat) (w:World) (h:so w cb A L c p s) (hp:p<=4611686018427387000) (hn:n<=1048576):
  Calls Tryz.prog 101 #[.pointer (some ⟨cb,0,none⟩),.int .i64 n] w fun e w'=>∃x p' s':Nat,e=.returned (.int .i64 x)/\(x=0\/x<n)/\p<=p'/\p'<=p+2/\so w' cb A L c p' s'/\(2<=n->n<=200->p'=p+1/\(L<=p->s'=nx s 0/\x=byteOf s'%n))/\CB cb w.heap.size w w':=by
 have H:=zh h;clear h
 go_enter Tryz.func101,Tryz.ntmps101
 by_cases h1:n<=1
 ·have e1:((n:Int)<=1)=True:=by simp;omega
  go_wp2_with fail;go_ret;exact⟨0,p,s,rfl,.inl rfl,Nat.le_refl _,by omega,H.out,fun h=>absurd h (by omega),CB.refl _ _ _⟩
 ·have e1:((n:Int)<=1)=False:=by simp;omega
  go_wp2_with fail;refine(tC cb A L c p s _ H.out (by omega)).mono ?_;rintro e w1 ⟨x,s1,rfl,hx,bS,vu,kw⟩;have HC:=zh kw;have xE:=zh bS;have Hl:=zh vu;clear bS vu kw
  by_cases h2:n<=200
  ·have e2:((200:Int)<(n:Int))=False:=by simp;omega
   have m1:IntKind.i64.wrap ((x:Int)%(n:Int))=(x:Int)%(n:Int):=by
    have q1:=Int.emod_nonneg (x:Int) (show(n:Int)≠0 by omega)
    have q2:=Int.emod_lt_of_pos (x:Int) (show(0:Int)<n by omega)
    exact aR _ (by omega) (by omega)
   have m2:(x:Int).tmod (n:Int)=(x:Int)%(n:Int):=Int.tmod_eq_emod_of_nonneg (by omega)
   have m3:((n:Int)=0)=False:=by simp;omega
   have m4:(n=0)=False:=by simp;omega
   go_wp2_with fail;go_ret;refine⟨x%n,p+1,s1,ia (by simp),.inr (Nat.mod_lt _ (by omega)),by omega,by omega,xE.out,fun _ _=>⟨rfl,fun h=>?_⟩,HC.out⟩
   obtain⟨q1,q2⟩:=Hl.out h;exact⟨q1,by rw[q2]⟩
  ·have e2:((200:Int)<(n:Int))=True:=by simp;omega
   have m5:IntKind.i64.wrap ((x:Int)*256)=(x:Int)*256:=aR _ (by omega) (by omega);go_wp2_with fail;refine(tC cb A L c (p+1) s1 _ xE.out (by omega)).mono ?_;rintro e w2 ⟨y,s2,rfl,hy,ke,qL,pu⟩;have Js:=zh pu;have Jt:=zh ke;clear ke qL pu;obtain⟨z,hz⟩:∃z:Nat,z=x*256+y:=⟨_,rfl⟩
   have m6:(x:Int)*256+(y:Int)=(z:Int):=by omega
   have m7:IntKind.i64.wrap (z:Int)=(z:Int):=aR _ (by omega) (by omega)
   have m1:IntKind.i64.wrap ((z:Int)%(n:Int))=(z:Int)%(n:Int):=by
    have q1:=Int.emod_nonneg (z:Int) (show(n:Int)≠0 by omega)
    have q2:=Int.emod_lt_of_pos (z:Int) (show(0:Int)<n by omega)
    exact aR _ (by omega) (by omega)
   have m2:(z:Int).tmod (n:Int)=(z:Int)%(n:Int):=Int.tmod_eq_emod_of_nonneg (by omega)
   have m3:((n:Int)=0)=False:=by simp;omega
   have m4:(n=0)=False:=by simp;omega
   clear hz;go_wp2_with fail;go_ret;refine⟨z%n,p+1+1,s2,ia (by simp),.inr (Nat.mod_lt _ (by omega)),by omega,by omega,Jt.out,fun _ h=>absurd h (by omega),HC.out.trans (Js.out.mono HC.out.size)⟩
def cW (w:World) (cb:Nat) (A:Option Addr) (L c P:Nat):Prop:=∃p s,so w cb A L c p s/\p<=P
theorem cW.lt {w:World} {cb:Nat} {A:Option Addr} {L c P:Nat} (h:cW w cb A L c P):cb<w.heap.size:=by obtain⟨p,s,h,_⟩:=h;exact h.lt
theorem cW.since {w w':World} {cb:Nat} {A:Option Addr} {L c P:Nat} (h:cW w cb A L c P) (hs:aa w w'):cW w' cb A L c P:=by obtain⟨p,s,h,hp⟩:=h;exact⟨p,s,h.since hs,hp⟩
theorem cW.aab {w w':World} {cb:Nat} {A:Option Addr} {L c P:Nat} (h:cW w cb A L c P) (hb:∀k,k<cb+1->w'.heap[k]?=w.heap[k]?):cW w' cb A L c P:=by obtain⟨p,s,h,hp⟩:=h;exact⟨p,s,h.aab hb,hp⟩
theorem cW.mono {w:World} {cb:Nat} {A:Option Addr} {L c P P':Nat} (h:cW w cb A L c P) (hP:P<=P'):cW w cb A L c P':=by obtain⟨p,s,h,hp⟩:=h;exact⟨p,s,h,by omega⟩
theorem cd.seen {β:Type} {R:World->Nat->Value->β->List Nat->Prop} (L:cd R) {w w':World} {base cb:Nat} {v:Value} {x:β} {S:List Nat} (h:R w base v x S) (hC:fR cb w w') (hb:cb<base):R w' base v x S:=
 L.aac h fun k hk=>hC.block k (L.range h k hk).2 (by have:=(L.range h k hk).1;omega)
theorem ao.seen {w w':World} {base cb:Nat} {a b d:Value} {n:am} {S:List Nat} (h:ao w base a b d n S) (hC:fR cb w w') (hb:cb<base):ao w' base a b d n S:=
 h.aac fun k hk=>hC.block k (h.range k hk).2 (by have:=(h.range k hk).1;omega)
theorem Own.seen {w w':World} {base cb:Nat} {v:Value} {xs:List Int} (h:Own w base v xs) (hC:fR cb w w') (hb:cb<base):Own w' base v xs:=(cd.seen dF (S:=v.ownBlock.toList) ⟨h,rfl⟩ hC hb).1
theorem dG (cb:Nat) (A:Option Addr) (L c P:Nat) (z:Int) (w:World) (h:cW w cb A L c P) (hP:P<=4611686018427387000) (hz:0<=z/\z<=1048576):
  Calls Tryz.prog 101 #[.pointer (some ⟨cb,0,none⟩),.int .i64 z] w fun e w'=>∃x:Nat,e=.returned (.int .i64 x)/\(x=0\/(x:Int)<z)/\cW w' cb A L c (P+2)/\CB cb w.heap.size w w':=by
 obtain⟨p,s,h,hp⟩:=h;obtain⟨n,rfl⟩:∃n:Nat,z=(n:Int):=⟨z.toNat,by omega⟩
 refine(pt cb A L c p s n w h (by omega) (by omega)).mono ?_;rintro e w' ⟨x,p',s',rfl,hx,h1,h2,hc,_,hC⟩;exact⟨x,rfl,by omega,⟨p',s',hc,by omega⟩,hC⟩
theorem re (cb:Nat) (A:Option Addr) (L c P:Nat) (z:Int) (w:World) (h:cW w cb A L c P) (hP:P<=4611686018427387000) (hz:0<=z/\z<=1048576):
  Calls Tryz.prog 96 #[.pointer (some ⟨cb,0,none⟩),.int .i64 z] w fun e w'=>∃b:Bool,e=.returned (.bool b)/\cW w' cb A L c (P+2)/\CB cb w.heap.size w w':=by
 have H:=zh h;clear h
 go_enter Tryz.func96,Tryz.ntmps96
 go_wp2_with fail;refine(dG cb A L c P z _ H.out hP hz).mono ?_;rintro e w1 ⟨x,rfl,-,bS,kw⟩;have HC:=zh kw;have xE:=zh bS;clear bS kw;go_wp2_with fail;go_ret;exact⟨_,rfl,xE.out,HC.out⟩
theorem D7 (cb:Nat) (A:Option Addr) (L c P:Nat) (B g q:Nat) (xs:List Int) (w:World) (h:cW w cb A L c P) (hP:P<=4611686018427387000) (ho:Own w B (.slice (some ⟨g,0,none⟩) xs.length q) xs) (hB:cb<B) (hx:1<=xs.length) (sg:xs.length<=1048576):
  Calls Tryz.prog 62 #[.pointer (some ⟨cb,0,none⟩),.slice (some ⟨g,0,none⟩) xs.length q] w fun e w'=>∃x,e=.returned (.int .i64 x)/\x∈xs/\cW w' cb A L c (P+2)/\CB cb w.heap.size w w':=by
 have H:=zh h;have Ho:=zh ho;clear h ho
 go_enter Tryz.func62,Tryz.ntmps62
 go_wp2_with fail;refine(dG cb A L c P xs.length _ H.out hP (by omega)).mono ?_;rintro e w1 ⟨x,rfl,Xs,bS,kw⟩;have BV:x<xs.length:=by omega
 obtain⟨y,hy⟩:=ax xs x BV;have c1:=(Ho.out.seen (cb:=cb) kw hB).cell hy;have Hy:=zh hy;have HC:=zh kw;have xE:=zh bS;clear bS kw hy Xs;go_wp2_with fail;go_ret;exact⟨y,rfl,List.mem_of_getElem? Hy.out,xE.out,HC.out⟩
def kX (n:Nat) (xs:List Int):Prop:=∀x∈xs,0<=x/\x<(n:Int)
theorem kX.set {n:Nat} {xs:List Int} (h:kX n xs) (k:Nat) {x:Int} (hx:0<=x/\x<(n:Int)):kX n (xs.set k x):=fun y hy=>by
 rcases List.mem_or_eq_of_mem_set hy with h1 | h1
 ·exact h y h1
 ·rw[h1];exact hx
theorem BW (cb:Nat) (A:Option Addr) (L c P n:Nat) (w:World) (h:cW w cb A L c P) (hP:P<=4611686018427000000) (hn:n<=100):
  Calls Tryz.prog 158 #[.pointer (some ⟨cb,0,none⟩),.int .i64 n] w fun e w'=>∃g xs,e=.returned (.slice (some ⟨g,0,none⟩) n n)/\Own w' w.heap.size (.slice (some ⟨g,0,none⟩) n n) xs/\kX n xs/\cW w' cb A L c (P+200)/\CB cb w.heap.size w w':=by
 have H:=zh h;have jw:=h.lt;clear h
 go_enter Tryz.func158,Tryz.ntmps158
 go_wp2_with (at_make;refine rr _ rfl _ _ rfl _ _ n rfl rfl rfl rfl (by omega) ?_;intro w1 gu aJ cj;have bu:aa w w1:=aJ)
 have D8:=zh cj;clear aJ cj
 go_loopw [14] (fun i wr=>∃(k:Nat) (xs:List Int),k<=n/\i=.int .i64 k/\Own wr w.heap.size (.slice (some ⟨w.heap.size,0,none⟩) n n) xs/\kX n xs/\aa w wr/\w.heap.size<wr.heap.size) (fun i _=>n-(intOf i).toNat)
 case atStart=>
  refine⟨0,_,Nat.zero_le _,rfl,gu,fun x hx=>?_,bu,D8.out⟩
  obtain⟨h1,rfl⟩:=List.mem_replicate.1 hx;omega
 case round=>
  obtain⟨k,xs,hk,rfl,ho,hB,dz,Qk⟩:=hrel;have HB:=zh hB;have fQ:=zh dz;have Ho:=zh ho;have Uk:=zh Qk
  by_cases aH:k<n
  ·have f0:=ho.free k
   obtain⟨y,hy⟩:=ax xs k (by have:=ho.len;omega)
   have c0:=ho.cell hy;have m1:IntKind.i64.wrap ((k:Int)+1)=(k:Int)+1:=aR _ (by omega) (by omega);clear ho hB dz Qk hy gu bu;go_wp2;go_roundw
   case rel=>
    refine⟨k+1,_,by omega,by first | rfl | go_num,Ho.out.set (k:Int),HB.out.set k (by omega),fQ.out.setCell (by simp) _,?_⟩
    show _<(wr.setCell _ _).heap.size
    rw[jf];exact Uk.out
   case measure=>simp[intOf];omega
  ·obtain rfl:k=n:=by omega
   have Xt:=zh gu;clear ho hB dz Qk gu bu;have m1:IntKind.i64.wrap ((k:Int)-1)=(k:Int)-1:=aR _ (by omega) (by omega);obtain⟨wo,rfl⟩:∃z,z=wr:=⟨_,rfl⟩
   go_wp2
   go_loopw [7] (fun i wr=>∃(z:Int) (xs:List Int),-1<=z/\z<(k:Int)/\i=.int .i64 z/\Own wr w.heap.size (.slice (some ⟨w.heap.size,0,none⟩) k k) xs/\kX k xs/\cW wr cb A L c (P+2*(k-z.toNat))/\CB cb w.heap.size w wr/\w.heap.size<wr.heap.size) (fun i _=>(intOf i).toNat)
   case atStart=>exact⟨(k:Int)-1,xs,by omega,by omega,by go_num,Ho.out,HB.out,(H.out.since fQ.out).mono (by omega),CB.of fQ.out,Uk.out⟩
   case round=>
    obtain⟨z,ys,cj,cX,rfl,ho,hB,hc,hC,Ll⟩:=hrel;have nD:=zh hB;have lv:=zh ho;have Jt:=zh hc;have Js:=zh hC;have Lm:=zh Ll;clear ho hB hc hC Ll
    by_cases Ln:0<z
    ·obtain⟨j,rfl⟩:∃j:Nat,z=(j:Int):=⟨z.toNat,by omega⟩
     have rC:1<=j:=by omega
     have uN:j<k:=by omega
     have m2:IntKind.i64.wrap ((j:Int)+1)=(j:Int)+1:=aR _ (by omega) (by omega);have m3:IntKind.i64.wrap ((j:Int)-1)=(j:Int)-1:=aR _ (by omega) (by omega);clear cj cX;go_wp2_with fail;refine(dG cb A L c _ ((j:Int)+1) wr Jt.out (by omega) (by omega)).mono ?_;rintro e w3 ⟨x,rfl,hx,sA,kW⟩;have Xu:x<k:=by omega
     have fU:=lv.out.seen (cb:=cb) kW jw;have dO:=fU.len;obtain⟨a,ha⟩:=ax ys j (by omega);obtain⟨b,hb⟩:=ax ys x (by omega);have c1:=fU.cell ha;have c2:=fU.cell hb;have f1:=fU.free j;have f2:=fU.free x;have qe:=zh fU;have Xv:=zh sA;have pr:=zh kW;have Ha:=zh (nD.out a (List.mem_of_getElem? ha));have Xw:=zh (nD.out b (List.mem_of_getElem? hb));have ja:=zh dO;clear hx fU sA kW ha hb dO;go_upto_region 13 with(fail);have lh:=qe.out.set (k:=j) b;have np:CB cb w.heap.size w3 (w3.setCell ⟨w.heap.size,j,none⟩ (.int .i64 b)):=(CB.refl cb w.heap.size w3).setCell (p:=⟨w.heap.size,j,none⟩) (.inl (Nat.le_refl _)) _
     have Ql:∀q,q<cb+1->(w3.setCell ⟨w.heap.size,j,none⟩ (.int .i64 b)).heap[q]?=w3.heap[q]?:=fun q hq=>Below.heap_setCell _ _ _ _ (by show q≠w.heap.size;omega)
     obtain⟨w4,lR⟩:∃z,z=w3.setCell ⟨w.heap.size,j,none⟩ (.int .i64 b):=⟨_,rfl⟩
     rw[<- lR]at lh np Ql ⊢
     obtain⟨d,hd⟩:=ax (ys.set j b) x (by rw[List.length_set,ja.out];exact Xu)
     have c4:=lh.cell hd;have f4:=lh.free x;have Hv:=zh lh;have Ul:=zh np;have Xx:=zh Ql;clear lR hd lh np Ql c1 c2 f1 f2;go_wp2;go_roundw
     case rel=>
      have hh:w.heap.size<w4.heap.size:=Nat.lt_of_lt_of_le Lm.out (Nat.le_trans pr.out.size Ul.out.size)
      refine⟨(j:Int)-1,(ys.set j b).set x a,by omega,by omega,by first | rfl | go_num,Hv.out.set a,(nD.out.set j Xw.out).set x Ha.out,?_,((Js.out.trans (pr.out.mono (by have:=Lm.out;omega))).trans Ul.out).setCell (p:=⟨w.heap.size,x,none⟩) (.inl (Nat.le_refl _)) _,by rw[jf];exact hh⟩
      have h1:=(Xv.out.aab Xx.out).aab (w':=w4.setCell ⟨w.heap.size,x,none⟩ (.int .i64 a)) (fun q hq=>Below.heap_setCell _ _ _ _ (by show q≠w.heap.size;omega))
      exact h1.mono (by omega)
     case measure=>simp[intOf];omega
    ·have HF:=zh Ln;go_wp2;go_ret;exact⟨w.heap.size,rfl,ys,lv.out,nD.out,Jt.out.mono (by omega),Js.out⟩
theorem jY (n:Nat) (hn:n<=1000000) (w:World):Calls Tryz.prog 143 #[.int .i64 n] w (mm w (bP n)):=by
 have m1:=sG n hn;have m2:=jL n hn
 go_enter Tryz.func143,Tryz.ntmps143
 go_wp2
 go_region
 ·go_wp2;refine bodyPost_ret (v:=.agg #[.slice (some ⟨w.heap.size+1,0,none⟩) n n,.slice none 0 0,.slice (some ⟨w.heap.size+1+1,0,none⟩) n n]) (by simp[results,Tryz.results143,go_sem]) rfl ?_;exact⟨_,_,_,_,rfl,(uW w _ n hn).drew,(zZ _ _ _ _).drew⟩
 ·go_wp2;refine bodyPost_ret (v:=.agg #[.slice (some ⟨w.heap.size+1+1,0,none⟩) n n,.slice none 0 0,.slice (some ⟨w.heap.size+1,0,none⟩) n n]) (by simp[results,Tryz.results143,go_sem]) rfl ?_;exact⟨_,_,_,_,rfl,(sI w _ n hn).drew,(zZ _ _ _ _).drew⟩
structure kY (n:am):Prop where
 ends:n.ends.length<=1000
 row:∀(k:Nat) (es:List (Int×Int)),n.ends[k]?=some es->es.length<=1000
 sz:ij n<=1048576
def bg (n:am) (v:Nat):List (Int×Int):=n.ends.getD v []
def kZ (n:am) (v:Nat) (e:Int×Int):am:={ n with ends:=n.ends.set v (bg n v++[e]) }
def gT (n:am) (v:Nat):am:=kZ n v ((v:Int),((bg n v).length:Int))
def bC (n:am) (v u:Nat):am:=kZ (kZ n v ((u:Int),if v=u then ((bg n u).length:Int)+1 else ((bg n u).length:Int))) u ((v:Int),((bg n v).length:Int))
theorem a_ {n:am} {v:Nat} (hv:v<n.ends.length):n.ends[v]?=some (bg n v):=by
 unfold bg;rw[zDd,List.getElem?_eq_getElem hv];rfl
theorem eQ (n:am) (v:Nat) (e:Int×Int):(kZ n v e).ends.length=n.ends.length:=by simp[kZ]
theorem ao.head {w:World} {base k c:Nat} {A:Option Addr} {vi vn:Value} {N:am} {S:List Nat} (h:ao w base (.slice A k c) vi vn N S) (h0:0<N.ends.length):∃g,A=some ⟨g,0,none⟩/\k=N.ends.length:=by
 obtain⟨S1,S2,S3,⟨vs,Ss,h1,_⟩,_⟩:=h;have h3:=dL h1;rcases h3 with⟨hv,h2⟩ | ⟨g,c',hv,_⟩
 ·omega
 ·cases hv;exact⟨g,rfl,rfl⟩
theorem kr {wc w8 w9:World} {base g c k v g9 cc:Nat} {vi vn u:Value} {N:am} {S T:List Nat} {x:List (Int×Int)} {y:Int×Int}
  (z6:∀(u':Value) (x':List (Int×Int)) (T':List Nat) (w':World),co w' base u' x' T'->aL T wc w'->(∀j∈T',j∈T\/wc.heap.size<=j)->∃S',ao (w'.setCell ⟨g,v,none⟩ u') base (.slice (some ⟨g,0,none⟩) k c) vi vn { N with ends:=N.ends.set v x' } S'/\∀j∈S',j∈S\/wc.heap.size<=j)
  (hR:co wc base u x T) (h8:aa wc w8) (fg:co w9 base (.slice (some ⟨g9,0,none⟩) (x.length+1) cc) (x++[y]) [g9]) (mc:w8.grownBy w9 u.ownBlock) (qk:u.ownBlock=some g9\/g9=w8.heap.size) (Gl:∀j∈T,j∈S) (qG:g∈S):
  ∃S',ao (w9.setCell ⟨g,v,none⟩ (.slice (some ⟨g9,0,none⟩) (x.length+1) cc)) base (.slice (some ⟨g,0,none⟩) k c) vi vn { N with ends:=N.ends.set v (x++[y]) } S'/\(∀j∈S',j∈S\/wc.heap.size<=j)/\aL S wc (w9.setCell ⟨g,v,none⟩ (.slice (some ⟨g9,0,none⟩) (x.length+1) cc)):=by
 have hT:T=u.ownBlock.toList:=hR.2
 have Um:aL T wc w9:=by rw[hT];exact(aL.aai h8).trans (aL.aaf mc)
 obtain⟨S',h1,h2⟩:=z6 _ _ _ _ fg Um (fun j hj=>by
  simp at hj;subst hj
  rcases qk with h | h
  ·left;rw[hT,h];simp
  ·right;rw[h];exact h8.size)
 exact⟨S',h1,h2,(Um.mono Gl).setCell (.inl qG) _⟩
theorem v_ (ve vi vn:Value) (n:am) (v:Nat) (w:World) (h:aI w ve vi vn n) (hv:v<n.ends.length) (hn:kY n):
  Calls Tryz.prog 139 #[.agg #[ve,vi,vn],.int .i64 v] w (mm w (gT n v)):=by
 have xV:=zh hn;clear hn
 obtain⟨w0,A,c,A2,c2,A3,c3,rfl,rfl,rfl,er,hm,et,fG,HA,bM,aY,H,e8,fh,fi⟩:=zB h;clear h
 obtain⟨wa,f7⟩:∃wa,wa=w0.alloc (.cells #[.slice none 0 0,.slice none 0 0,.slice none 0 0] 27):=⟨_,rfl⟩
 have gO:aa w0 wa:=by rw[f7];exact ae _ (ab _)
 have jB:w0.heap.size=w.heap.size+1:=by rw[bM.out];simp
 have yO:Hid (wa.heap.size=w.heap.size+1+1):=by show _=_;rw[f7,<- jB];simp
 have uD:Hid (∀X,aa wa X->aT X (w.heap.size+1) (.slice none 0 0) (.slice none 0 0) (.slice none 0 0)):=fun X hX=>by
  refine aT.since (W:=wa) ?_ hX;rw[f7,<- jB];show(w0.heap.push _)[w0.heap.size]?=_
  rw[Array.getElem?_push_size]
 have AX:=ak e8 gO;have AY:=ak fh gO;have AZ:=ak fi gO;have tj:=zh f7;have sj:=zh gO;have fL:Hid (Below w.heap.size w wa):=Below.trans aY.out (gO.below.mono aY.out.size);clear f7 gO jB e8 fh fi
 go_enter Tryz.func139,Tryz.ntmps139
 go_upto_region 1 with(fail);rw[<- bM.out,<- tj.out];have hs:aa wa wa:=ab _;go_wp2_with fail;refine(gD _ _ _ n wa (H.out.aab sj.out.below) xV.out.ends xV.out.row xV.out.sz).mono ?_;rintro e w1 ⟨we,wi,wn,S,rfl,ho,aJ⟩;obtain⟨A1,c1,rfl,-,-,-⟩:=id ho.read.1;obtain⟨AI,cI,rfl,-,-,-⟩:=id ho.read.2.1;obtain⟨AN,cN,rfl,-,-,-⟩:=id ho.read.2.2;obtain⟨g,rfl,-⟩:=ho.head (by omega);obtain⟨base,gJ⟩:∃base,base=wa.heap.size:=⟨_,rfl⟩
 rw[<- gJ]at ho;have bu:aa wa w1:=hs.trans aJ;obtain⟨w2,eY⟩:∃z,z=w1.alloc (.cells #[.slice (some ⟨g,0,none⟩) n.ends.length c1,.slice AI n.ids.length cI,.slice AN n.aaa.length cN] 27):=⟨_,rfl⟩
 obtain⟨bo,nd⟩:∃z,z=w1.heap.size:=⟨_,rfl⟩
 have iK:aa w1 w2:=by rw[eY];exact ae _ (ab _)
 have zF:aS w2 bo (.slice (some ⟨g,0,none⟩) n.ends.length c1) (.slice AI n.ids.length cI) (.slice AN n.aaa.length cN):=by rw[eY,nd];exact aS.new _ _ _ _ _
 have ta:bo∉S:=fun hj=>by have:=(ho.range _ hj).2;omega
 have pw:=zh gJ;have tk:=zh eY;have zw:=zh nd;have sl:=zh (ho.aab iK.below);have tD:=zh zF;have sk:=zh ta;have g7:=zh (bu.after iK)
 have tE:Hid (base<=bo/\bo<w2.heap.size):=⟨by rw[gJ,nd];exact bu.below.size,by rw[eY,nd];simp⟩
 have nq:=a_ hv;obtain⟨xv,gC⟩:∃x,x=bg n v:=⟨_,rfl⟩
 rw[<- gC]at nq;have pU:=zh gC;have Lo:=zh nq;have tF:Hid (xv.length<=1000):=xV.out.row _ _ nq;clear gJ eY nd ho zF ta bu iK aJ hs gC nq AX AY AZ;have vu:=tF.out
 have Ju:Hid (xv.length+1<=1000000):=by show _<=_;omega
 have px:Hid (base<=w2.heap.size):=by show _<=_;have:=tE.out;omega
 clear vu;go_upto_region 2 with(fail);rw[<- tk.out,<- zw.out];obtain⟨u2,T2,ux,xB,tG,k8,py,lV,gV⟩:=sl.out.aak Lo.out;obtain⟨nr,nt,rfl,-,-,-⟩:=id tG.read;have wb:=zh tG;have k9:=zh gV;have tH:g≠bo:=fun h=>sk.out (h ▸ lV)
 have Lp:=zh tH;have wd:=zh py;have wg:=zh lV;have wh:=zh k8;have BX:=zh ux;have Hw:=zh xB;have wj:Hid (bo∉T2):=fun h=>sk.out (k8 _ h)
 have nD:=zh (aS.cells tD.out);clear tH py lV k8 ux xB tG gV;refine ar (fun W=>W.cell? ⟨bo,0,none⟩=some (.slice (some ⟨g,0,none⟩) n.ends.length c1)/\W.cell? ⟨g,v,none⟩=some (.slice nr xv.length nt)) 18 [false,false,false,false,false,false,false,false,false,false,false,false,false,false,false,false,true,true] (by kernel_rfl) (by kernel_rfl) (show(World.drew w2).cell? ⟨bo,0,none⟩=some (.slice (some ⟨g,0,none⟩) n.ends.length c1)/\(World.drew w2).cell? ⟨g,v,none⟩=some (.slice nr xv.length nt)from⟨nD.out.1,BX.out⟩) ?_
 simp only[df,b8,zT]
 iterate 16 (apply aU rfl;(intro W hW;(obtain⟨k0,k1⟩:=hW);go_simp;with_reducible rfl);simp only[zA])
 obtain⟨W,bB⟩:∃W,W=World.drew w2:=⟨_,rfl⟩
 rw[<- bB];have hW:=(show(World.drew w2).cell? ⟨bo,0,none⟩=some (.slice (some ⟨g,0,none⟩) n.ends.length c1)/\(World.drew w2).cell? ⟨g,v,none⟩=some (.slice nr xv.length nt)from⟨nD.out.1,BX.out⟩);rw[<- bB]at hW;have dX:=zh bB;clear bB
 refine bD (v:=?_) (ob:=?_) rfl ?_ ?_ ?_;rotate_left 2
 (go_simp;first | with_reducible rfl | (refine⟨?_,?_⟩ <;> with_reducible rfl))
 exact⟨bc (aj _ _) hW.1,bc (aj _ _) hW.2⟩;intro w8 f6 gP
 replace hW:=gP
 clear gP
 have tI:Hid (w8=(World.drew w2).alloc (.cells #[.int .i64 (v:Int),.int .i64 (xv.length:Int)] 36)):=by show _=_;rw[f6,dX.out]
 have iz:Hid (aa w2 w8):=by show aa _ _;rw[tI.out];exact ae _ (ah (ab _))
 have pg:Hid (co w8 base (.slice nr xv.length nt) xv T2):=fm.aab wb.out iz.out.below
 have ql:Hid (w8.cell? ⟨w2.heap.size,0,none⟩=some (.int .i64 (v:Int))/\w8.cell? ⟨w2.heap.size,1,none⟩=some (.int .i64 (xv.length:Int))):=by show _/\_;rw[tI.out];exact eP (World.drew w2) _ _ _
 rw[show W.heap.size=w2.heap.size from by rw[dX.out];rfl]
 clear f6 dX
 (try simp only[zA])
 refine ci (fun Q' HQ=>?_)
 (refine gS (base:=base) (v:=.slice nr xv.length nt) (xs:=xv) rfl _ _ rfl rfl pg.out w2.heap.size ((v:Int),(xv.length:Int)) rfl ql.out.1 ql.out.2 Ju.out (Nat.le_trans px.out iz.out.below.size) ?_);intro g9 rf w9 fg mc qk;have ee:=aL.aaf mc;have pz:(Value.slice nr xv.length nt).ownBlock.toList=T2:=(wb.out.2).symm;have jz:(⟨bo,0,none⟩:Addr).block∉(Value.slice nr xv.length nt).ownBlock.toList:=(by rw[pz];exact wj.out);have lW:(⟨g,v,none⟩:Addr).block∉(Value.slice nr xv.length nt).ownBlock.toList:=(by rw[pz];exact wd.out);have ld:=ee.cell jz hW.1;have nT:=ee.cell lW hW.2;have yr:=ee.fz lW hW.2 (bf iz.out.below BX.out Hw.out);refine HQ _ _ ⟨ld,nT⟩ ?_;have qm:=zh (kr k9.out wb.out iz.out fg mc qk wh.out wg.out);clear fg mc qk jz lW ee pz hW
 (try simp only[zA])
 simp only[aQ];go_upto_region 3 with(fail);obtain⟨Lq,cj,cX,o_⟩:=qm.out;obtain⟨w5,hw⟩:∃z,z=w9.setCell ⟨g,v,none⟩ (.slice (some ⟨g9,0,none⟩) (xv.length+1) rf):=⟨_,rfl⟩
 rw[<- hw]at cj o_ ⊢;have BY:=zh cj;have D9:=zh cX;have nu:=zh o_;clear hw cj cX o_ qm ld nT yr
 have FJ:Hid (ao w5 base (.slice (some ⟨g,0,none⟩) n.ends.length c1) (.slice AI n.ids.length cI) (.slice AN n.aaa.length cN) (gT n v) Lq):=by show ao _ _ _ _ _ _ _;unfold gT kZ;rw[<- pU.out];exact BY.out
 have Lr:Hid (aS w5 bo (.slice (some ⟨g,0,none⟩) n.ends.length c1) (.slice AI n.ids.length cI) (.slice AN n.aaa.length cN)):=by obtain⟨r,hr⟩:=tD.out;exact⟨r,(nu.out.block bo tE.out.2 sk.out).trans hr⟩
 have tJ:Hid (Below base w2 w5):=nu.out.below base px.out (fun j hj=>(sl.out.range j hj).1)
 have fH:aT w5 (w.heap.size+1) (.slice none 0 0) (.slice none 0 0) (.slice none 0 0):=(tJ.out.block _ (by have h2:=pw.out;have h3:=yO.out;omega)).trans (uD.out w2 g7.out)
 obtain⟨d0,d1,d2,-,-,-⟩:=Lr.out.cells;obtain⟨e0,e1,e2,f0,f1,f2⟩:=fH.box.cells;clear fH;go_wp2;refine bodyPost_ret (v:=.agg #[.slice (some ⟨g,0,none⟩) n.ends.length c1,.slice AI n.ids.length cI,.slice AN n.aaa.length cN]) (by simp[results,Tryz.results139,go_sem, *]) rfl ?_;have Un:=pw.out;have NP:=yO.out;refine⟨_,_,_,_,rfl,(FJ.out.aac (fun j hj=>?_)).mono (show w.heap.size<=base by omega),?_⟩
 ·have rC:=(FJ.out.range j hj).1;rw[Below.heap_setCell _ _ _ j (by simp;omega),Below.heap_setCell _ _ _ j (by simp;omega),Below.heap_setCell _ _ _ j (by simp;omega)]
 ·have hk:Below w.heap.size w w5:=(Below.trans fL.out (g7.out.below.mono (by omega))).trans (tJ.out.mono (by omega));exact((hk.setCell (by simp) _).setCell (by simp) _).setCell (by simp) _
theorem jq (ve vi vn:Value) (n:am) (v u:Nat) (w:World) (h:aI w ve vi vn n) (hv:v<n.ends.length) (BZ:u<n.ends.length) (hn:kY n):
  Calls Tryz.prog 156 #[.agg #[ve,vi,vn],.int .i64 v,.int .i64 u] w (mm w (bC n v u)):=by
 have xV:=zh hn;clear hn
 obtain⟨w0,A,c,A2,c2,A3,c3,rfl,rfl,rfl,er,hm,et,fG,HA,bM,aY,H,e8,fh,fi⟩:=zB h;clear h
 obtain⟨wa,f7⟩:∃wa,wa=w0.alloc (.cells #[.slice none 0 0,.slice none 0 0,.slice none 0 0] 27):=⟨_,rfl⟩
 have gO:aa w0 wa:=by rw[f7];exact ae _ (ab _)
 have jB:w0.heap.size=w.heap.size+1:=by rw[bM.out];simp
 have yO:Hid (wa.heap.size=w.heap.size+1+1):=by show _=_;rw[f7,<- jB];simp
 have uD:Hid (∀X,aa wa X->aT X (w.heap.size+1) (.slice none 0 0) (.slice none 0 0) (.slice none 0 0)):=fun X hX=>by
  refine aT.since (W:=wa) ?_ hX;rw[f7,<- jB];show(w0.heap.push _)[w0.heap.size]?=_
  rw[Array.getElem?_push_size]
 have AX:=ak e8 gO;have AY:=ak fh gO;have AZ:=ak fi gO;have tj:=zh f7;have sj:=zh gO;have fL:Hid (Below w.heap.size w wa):=Below.trans aY.out (gO.below.mono aY.out.size);clear f7 gO jB e8 fh fi
 go_enter Tryz.func156,Tryz.ntmps156
 go_upto_region 1 with(fail);rw[<- bM.out,<- tj.out];have hs:aa wa wa:=ab _;go_wp2_with fail;refine(gD _ _ _ n wa (H.out.aab sj.out.below) xV.out.ends xV.out.row xV.out.sz).mono ?_;rintro e w1 ⟨we,wi,wn,S,rfl,ho,aJ⟩;obtain⟨A1,c1,rfl,-,-,-⟩:=id ho.read.1;obtain⟨AI,cI,rfl,-,-,-⟩:=id ho.read.2.1;obtain⟨AN,cN,rfl,-,-,-⟩:=id ho.read.2.2;obtain⟨g,rfl,-⟩:=ho.head (by omega);obtain⟨base,gJ⟩:∃base,base=wa.heap.size:=⟨_,rfl⟩
 rw[<- gJ]at ho;have bu:aa wa w1:=hs.trans aJ;obtain⟨w2,eY⟩:∃z,z=w1.alloc (.cells #[.slice (some ⟨g,0,none⟩) n.ends.length c1,.slice AI n.ids.length cI,.slice AN n.aaa.length cN] 27):=⟨_,rfl⟩
 obtain⟨bo,nd⟩:∃z,z=w1.heap.size:=⟨_,rfl⟩
 have iK:aa w1 w2:=by rw[eY];exact ae _ (ab _)
 have zF:aS w2 bo (.slice (some ⟨g,0,none⟩) n.ends.length c1) (.slice AI n.ids.length cI) (.slice AN n.aaa.length cN):=by rw[eY,nd];exact aS.new _ _ _ _ _
 have ta:bo∉S:=fun hj=>by have:=(ho.range _ hj).2;omega
 have pw:=zh gJ;have tk:=zh eY;have zw:=zh nd;have sl:=zh (ho.aab iK.below);have tD:=zh zF;have sk:=zh ta;have g7:=zh (bu.after iK)
 have tE:Hid (base<=bo/\bo<w2.heap.size):=⟨by rw[gJ,nd];exact bu.below.size,by rw[eY,nd];simp⟩
 have nq:=a_ hv;obtain⟨xv,gC⟩:∃x,x=bg n v:=⟨_,rfl⟩
 rw[<- gC]at nq;have pU:=zh gC;have Lo:=zh nq;have tF:Hid (xv.length<=1000):=xV.out.row _ _ nq;clear gJ eY nd ho zF ta bu iK aJ hs gC nq AX AY AZ
 have FK:=a_ BZ;obtain⟨xu,gC⟩:∃x,x=bg n u:=⟨_,rfl⟩
 rw[<- gC]at FK;have Uo:=zh gC;have Uq:=zh FK;have HD:Hid (xu.length<=1000):=xV.out.row _ _ FK;have vu:=tF.out;have qL:=HD.out
 have Ju:Hid (xv.length+1<=1000000):=by show _<=_;omega
 have px:Hid (base<=w2.heap.size):=by show _<=_;have:=tE.out;omega
 have m1:IntKind.i64.wrap ((xu.length:Int)+1)=(xu.length:Int)+1:=aR _ (by omega) (by omega);clear vu qL gC FK;obtain⟨uv,Tv,xA,-,Ur,-,-,-⟩:=sl.out.aah Lo.out;obtain⟨Av,cv,rfl,-,-,-⟩:=id Ur.read;obtain⟨uu,Tu,gW,-,Us,-,-,-⟩:=sl.out.aah Uq.out;obtain⟨Au,cu,rfl,-,-,-⟩:=id Us.read;have dx:=tD.out.cells.1;clear Ur Us
 by_cases Ls:v=u
 ·subst Ls;obtain rfl:xv=xu:=by rw[Uo.out,pU.out]
  go_upto_region 2 with(fail);rw[<- tk.out,<- zw.out];have Qm:((v:Int)=(v:Int))=True:=by simp
  go_upto_region 6 with(fail);clear xA gW dx Qm;obtain⟨u2,T2,ux,xB,tG,k8,py,lV,gV⟩:=sl.out.aak Lo.out;obtain⟨nr,nt,rfl,-,-,-⟩:=id tG.read;have wb:=zh tG;have k9:=zh gV;have tH:g≠bo:=fun h=>sk.out (h ▸ lV)
  have Lp:=zh tH;have wd:=zh py;have wg:=zh lV;have wh:=zh k8;have BX:=zh ux;have Hw:=zh xB;have wj:Hid (bo∉T2):=fun h=>sk.out (k8 _ h)
  have nD:=zh (aS.cells tD.out);clear tH py lV k8 ux xB tG gV;refine ar (fun W=>W.cell? ⟨bo,0,none⟩=some (.slice (some ⟨g,0,none⟩) n.ends.length c1)/\W.cell? ⟨g,v,none⟩=some (.slice nr xv.length nt)) 13 [false,false,false,false,false,false,false,false,false,false,false,true,true] (by kernel_rfl) (by kernel_rfl) (show(World.drew w2).cell? ⟨bo,0,none⟩=some (.slice (some ⟨g,0,none⟩) n.ends.length c1)/\(World.drew w2).cell? ⟨g,v,none⟩=some (.slice nr xv.length nt)from⟨nD.out.1,BX.out⟩) ?_
  simp only[df,b8,zT]
  iterate 11 (apply aU rfl;(intro W hW;(obtain⟨k0,k1⟩:=hW);go_simp;with_reducible rfl);simp only[zA])
  obtain⟨W,bB⟩:∃W,W=World.drew w2:=⟨_,rfl⟩
  rw[<- bB];have hW:=(show(World.drew w2).cell? ⟨bo,0,none⟩=some (.slice (some ⟨g,0,none⟩) n.ends.length c1)/\(World.drew w2).cell? ⟨g,v,none⟩=some (.slice nr xv.length nt)from⟨nD.out.1,BX.out⟩);rw[<- bB]at hW;have dX:=zh bB;clear bB
  refine bD (v:=?_) (ob:=?_) rfl ?_ ?_ ?_;rotate_left 2
  (go_simp;first | with_reducible rfl | (refine⟨?_,?_⟩ <;> with_reducible rfl))
  exact⟨bc (aj _ _) hW.1,bc (aj _ _) hW.2⟩;intro w8 f6 gP
  replace hW:=gP
  clear gP
  have tI:Hid (w8=(World.drew w2).alloc (.cells #[.int .i64 (v:Int),.int .i64 ((xv.length:Int)+1)] 36)):=by show _=_;rw[f6,dX.out]
  have iz:Hid (aa w2 w8):=by show aa _ _;rw[tI.out];exact ae _ (ah (ab _))
  have pg:Hid (co w8 base (.slice nr xv.length nt) xv T2):=fm.aab wb.out iz.out.below
  have ql:Hid (w8.cell? ⟨w2.heap.size,0,none⟩=some (.int .i64 (v:Int))/\w8.cell? ⟨w2.heap.size,1,none⟩=some (.int .i64 ((xv.length:Int)+1))):=by show _/\_;rw[tI.out];exact eP (World.drew w2) _ _ _
  rw[show W.heap.size=w2.heap.size from by rw[dX.out];rfl]
  clear f6 dX
  (try simp only[zA])
  refine ci (fun Q' HQ=>?_)
  (refine gS (base:=base) (v:=.slice nr xv.length nt) (xs:=xv) rfl _ _ rfl rfl pg.out w2.heap.size ((v:Int),((xv.length:Int)+1)) rfl ql.out.1 ql.out.2 Ju.out (Nat.le_trans px.out iz.out.below.size) ?_);intro g9 rf w9 fg mc qk;have ee:=aL.aaf mc;have pz:(Value.slice nr xv.length nt).ownBlock.toList=T2:=(wb.out.2).symm;have jz:(⟨bo,0,none⟩:Addr).block∉(Value.slice nr xv.length nt).ownBlock.toList:=(by rw[pz];exact wj.out);have lW:(⟨g,v,none⟩:Addr).block∉(Value.slice nr xv.length nt).ownBlock.toList:=(by rw[pz];exact wd.out);have ld:=ee.cell jz hW.1;have nT:=ee.cell lW hW.2;have yr:=ee.fz lW hW.2 (bf iz.out.below BX.out Hw.out);refine HQ _ _ ⟨ld,nT⟩ ?_;have qm:=zh (kr k9.out wb.out iz.out fg mc qk wh.out wg.out);clear fg mc qk jz lW ee pz hW
  (try simp only[zA])
  simp only[aQ];go_upto_region 7 with(fail);obtain⟨Lq,cj,cX,o_⟩:=qm.out;obtain⟨w5,hw⟩:∃z,z=w9.setCell ⟨g,v,none⟩ (.slice (some ⟨g9,0,none⟩) (xv.length+1) rf):=⟨_,rfl⟩
  rw[<- hw]at cj o_ ⊢;have BY:=zh cj;have D9:=zh cX;have nu:=zh o_;clear hw cj cX o_ qm ld nT yr
  have B0:Hid (aS w5 bo (.slice (some ⟨g,0,none⟩) n.ends.length c1) (.slice AI n.ids.length cI) (.slice AN n.aaa.length cN)):=by obtain⟨r,hr⟩:=tD.out;exact⟨r,(nu.out.block bo tE.out.2 sk.out).trans hr⟩
  have Ba:Hid (bo∉Lq):=fun hj=>by
   have h2:=tE.out;rcases D9.out _ hj with h1 | h1
   ·exact sk.out h1
   ·omega
  obtain⟨xw,D_⟩:∃z,z=xv++[((v:Int),(xv.length:Int)+1)]:=⟨_,rfl⟩
  have Lt:Hid ((n.ends.set v (xv++[((v:Int),((xv.length:Int)+1))]))[v]?=some xw):=by show _=_;rw[D_];rw[List.getElem?_set_self (by omega)]
  have Qn:Hid (xw.length+1<=1000000):=by show _<=_;have h1:=tF.out;have h2:=HD.out;rw[D_];simp;omega
  have pA:Hid (Below base w2 w5):=nu.out.below base px.out (fun j hj=>(sl.out.range j hj).1)
  have B4:Hid (base<=w5.heap.size):=Nat.le_trans px.out pA.out.size;have Xy:=zh D_;clear D_;have Lu:=BY;obtain⟨u5,T5,Lv,Lw,HH,wt,B5,wu,pB⟩:=Lu.out.aak Lt.out;obtain⟨tK,tL,rfl,-,-,-⟩:=id HH.read;have HU:=zh HH;have wv:=zh pB;have B6:g≠bo:=fun h=>Ba.out (h ▸ wu)
  have Qo:=zh B6;have HV:=zh B5;have HZ:=zh wu;have H4:=zh wt;have H5:=zh Lv;have Qp:=zh Lw;have H6:Hid (bo∉T5):=fun h=>Ba.out (wt _ h)
  have Lx:=zh (aS.cells B0.out);clear B6 B5 wu wt Lv Lw HH pB;refine ar (fun W=>W.cell? ⟨bo,0,none⟩=some (.slice (some ⟨g,0,none⟩) n.ends.length c1)/\W.cell? ⟨g,v,none⟩=some (.slice tK xw.length tL)) 13 [false,false,false,false,false,false,false,false,false,false,false,true,true] (by kernel_rfl) (by kernel_rfl) (show(World.drew w5).cell? ⟨bo,0,none⟩=some (.slice (some ⟨g,0,none⟩) n.ends.length c1)/\(World.drew w5).cell? ⟨g,v,none⟩=some (.slice tK xw.length tL)from⟨Lx.out.1,H5.out⟩) ?_
  simp only[df,b8,zT]
  iterate 11 (apply aU rfl;(intro W hW;(obtain⟨k0,k1⟩:=hW);go_simp;with_reducible rfl);simp only[zA])
  obtain⟨W,bB⟩:∃W,W=World.drew w5:=⟨_,rfl⟩
  rw[<- bB];have hW:=(show(World.drew w5).cell? ⟨bo,0,none⟩=some (.slice (some ⟨g,0,none⟩) n.ends.length c1)/\(World.drew w5).cell? ⟨g,v,none⟩=some (.slice tK xw.length tL)from⟨Lx.out.1,H5.out⟩);rw[<- bB]at hW;have dX:=zh bB;clear bB
  refine bD (v:=?_) (ob:=?_) rfl ?_ ?_ ?_;rotate_left 2
  (go_simp;first | with_reducible rfl | (refine⟨?_,?_⟩ <;> with_reducible rfl))
  exact⟨bc (aj _ _) hW.1,bc (aj _ _) hW.2⟩;intro w8 f6 gP
  replace hW:=gP
  clear gP
  have tI:Hid (w8=(World.drew w5).alloc (.cells #[.int .i64 (v:Int),.int .i64 (xv.length:Int)] 36)):=by show _=_;rw[f6,dX.out]
  have iz:Hid (aa w5 w8):=by show aa _ _;rw[tI.out];exact ae _ (ah (ab _))
  have pg:Hid (co w8 base (.slice tK xw.length tL) xw T5):=fm.aab HU.out iz.out.below
  have ql:Hid (w8.cell? ⟨w5.heap.size,0,none⟩=some (.int .i64 (v:Int))/\w8.cell? ⟨w5.heap.size,1,none⟩=some (.int .i64 (xv.length:Int))):=by show _/\_;rw[tI.out];exact eP (World.drew w5) _ _ _
  rw[show W.heap.size=w5.heap.size from by rw[dX.out];rfl]
  clear f6 dX
  (try simp only[zA])
  refine ci (fun Q' HQ=>?_)
  (refine gS (base:=base) (v:=.slice tK xw.length tL) (xs:=xw) rfl _ _ rfl rfl pg.out w5.heap.size ((v:Int),(xv.length:Int)) rfl ql.out.1 ql.out.2 Qn.out (Nat.le_trans B4.out iz.out.below.size) ?_);intro g9 rf w9 fg mc qk;have ee:=aL.aaf mc;have pz:(Value.slice tK xw.length tL).ownBlock.toList=T5:=(HU.out.2).symm;have jz:(⟨bo,0,none⟩:Addr).block∉(Value.slice tK xw.length tL).ownBlock.toList:=(by rw[pz];exact H6.out);have lW:(⟨g,v,none⟩:Addr).block∉(Value.slice tK xw.length tL).ownBlock.toList:=(by rw[pz];exact HV.out);have ld:=ee.cell jz hW.1;have nT:=ee.cell lW hW.2;have yr:=ee.fz lW hW.2 (bf iz.out.below H5.out Qp.out);refine HQ _ _ ⟨ld,nT⟩ ?_;have qm:=zh (kr wv.out HU.out iz.out fg mc qk H4.out HZ.out);clear fg mc qk jz lW ee pz hW
  (try simp only[zA])
  simp only[aQ];go_upto_region 8 with(fail);obtain⟨Qq,cj,cX,o_⟩:=qm.out;obtain⟨w7,hw⟩:∃z,z=w9.setCell ⟨g,v,none⟩ (.slice (some ⟨g9,0,none⟩) (xw.length+1) rf):=⟨_,rfl⟩
  rw[<- hw]at cj o_ ⊢;have H7:=zh cj;have Qr:=zh cX;have tM:=zh o_;clear hw cj cX o_ qm ld nT yr
  have FJ:Hid (ao w7 base (.slice (some ⟨g,0,none⟩) n.ends.length c1) (.slice AI n.ids.length cI) (.slice AN n.aaa.length cN) (bC n v v) Qq):=by
   have h1:=H7.out
   have e:({ ends:=(n.ends.set v (xv++[((v:Int),((xv.length:Int)+1))])).set v (xw++[((v:Int),(xv.length:Int))]),ids:=n.ids,aaa:=n.aaa }:am)=bC n v v:=by
    have h2:=Lt.out
    have h3:bg ({ ends:=n.ends.set v (xv++[((v:Int),((xv.length:Int)+1))]),ids:=n.ids,aaa:=n.aaa }:am) v=xw:=by unfold bg;rw[zDd];show((n.ends.set v _)[v]?).getD []=xw;rw[h2];rfl
    unfold bC;rw[if_pos rfl,<- pU.out];unfold kZ;rw[<- pU.out,h3]
   rw[<- e];exact h1
  have Lr:Hid (aS w7 bo (.slice (some ⟨g,0,none⟩) n.ends.length c1) (.slice AI n.ids.length cI) (.slice AN n.aaa.length cN)):=by obtain⟨r,hr⟩:=B0.out;exact⟨r,(tM.out.block bo (by have:=tE.out;have:=pA.out.size;omega) Ba.out).trans hr⟩
  have tJ:Hid (Below base w2 w7):=pA.out.trans (tM.out.below base B4.out (fun j hj=>(Lu.out.range j hj).1))
  have fH:aT w7 (w.heap.size+1) (.slice none 0 0) (.slice none 0 0) (.slice none 0 0):=(tJ.out.block _ (by have h2:=pw.out;have h3:=yO.out;omega)).trans (uD.out w2 g7.out)
  obtain⟨d0,d1,d2,-,-,-⟩:=Lr.out.cells;obtain⟨e0,e1,e2,f0,f1,f2⟩:=fH.box.cells;clear fH;go_wp2;refine bodyPost_ret (v:=.agg #[.slice (some ⟨g,0,none⟩) n.ends.length c1,.slice AI n.ids.length cI,.slice AN n.aaa.length cN]) (by simp[results,Tryz.results156,go_sem, *]) rfl ?_;have Un:=pw.out;have NP:=yO.out;refine⟨_,_,_,_,rfl,(FJ.out.aac (fun j hj=>?_)).mono (show w.heap.size<=base by omega),?_⟩
  ·have rC:=(FJ.out.range j hj).1;rw[Below.heap_setCell _ _ _ j (by simp;omega),Below.heap_setCell _ _ _ j (by simp;omega),Below.heap_setCell _ _ _ j (by simp;omega)]
  ·have hk:Below w.heap.size w w7:=(Below.trans fL.out (g7.out.below.mono (by omega))).trans (tJ.out.mono (by omega));exact((hk.setCell (by simp) _).setCell (by simp) _).setCell (by simp) _
 ·have oh:((v:Int)=(u:Int))=False:=by simp;omega
  go_upto_region 2 with(fail);rw[<- tk.out,<- zw.out];go_upto_region 6 with(fail);clear xA gW dx oh;obtain⟨u2,T2,ux,xB,tG,k8,py,lV,gV⟩:=sl.out.aak Lo.out;obtain⟨nr,nt,rfl,-,-,-⟩:=id tG.read;have wb:=zh tG;have k9:=zh gV;have tH:g≠bo:=fun h=>sk.out (h ▸ lV)
  have Lp:=zh tH;have wd:=zh py;have wg:=zh lV;have wh:=zh k8;have BX:=zh ux;have Hw:=zh xB;have wj:Hid (bo∉T2):=fun h=>sk.out (k8 _ h)
  have nD:=zh (aS.cells tD.out);clear tH py lV k8 ux xB tG gV;refine ar (fun W=>W.cell? ⟨bo,0,none⟩=some (.slice (some ⟨g,0,none⟩) n.ends.length c1)/\W.cell? ⟨g,v,none⟩=some (.slice nr xv.length nt)) 13 [false,false,false,false,false,false,false,false,false,false,false,true,true] (by kernel_rfl) (by kernel_rfl) (show(World.drew w2).cell? ⟨bo,0,none⟩=some (.slice (some ⟨g,0,none⟩) n.ends.length c1)/\(World.drew w2).cell? ⟨g,v,none⟩=some (.slice nr xv.length nt)from⟨nD.out.1,BX.out⟩) ?_
  simp only[df,b8,zT]
  iterate 11 (apply aU rfl;(intro W hW;(obtain⟨k0,k1⟩:=hW);go_simp;with_reducible rfl);simp only[zA])
  obtain⟨W,bB⟩:∃W,W=World.drew w2:=⟨_,rfl⟩
  rw[<- bB];have hW:=(show(World.drew w2).cell? ⟨bo,0,none⟩=some (.slice (some ⟨g,0,none⟩) n.ends.length c1)/\(World.drew w2).cell? ⟨g,v,none⟩=some (.slice nr xv.length nt)from⟨nD.out.1,BX.out⟩);rw[<- bB]at hW;have dX:=zh bB;clear bB
  refine bD (v:=?_) (ob:=?_) rfl ?_ ?_ ?_;rotate_left 2
  (go_simp;first | with_reducible rfl | (refine⟨?_,?_⟩ <;> with_reducible rfl))
  exact⟨bc (aj _ _) hW.1,bc (aj _ _) hW.2⟩;intro w8 f6 gP
  replace hW:=gP
  clear gP
  have tI:Hid (w8=(World.drew w2).alloc (.cells #[.int .i64 (u:Int),.int .i64 (xu.length:Int)] 36)):=by show _=_;rw[f6,dX.out]
  have iz:Hid (aa w2 w8):=by show aa _ _;rw[tI.out];exact ae _ (ah (ab _))
  have pg:Hid (co w8 base (.slice nr xv.length nt) xv T2):=fm.aab wb.out iz.out.below
  have ql:Hid (w8.cell? ⟨w2.heap.size,0,none⟩=some (.int .i64 (u:Int))/\w8.cell? ⟨w2.heap.size,1,none⟩=some (.int .i64 (xu.length:Int))):=by show _/\_;rw[tI.out];exact eP (World.drew w2) _ _ _
  rw[show W.heap.size=w2.heap.size from by rw[dX.out];rfl]
  clear f6 dX
  (try simp only[zA])
  refine ci (fun Q' HQ=>?_)
  (refine gS (base:=base) (v:=.slice nr xv.length nt) (xs:=xv) rfl _ _ rfl rfl pg.out w2.heap.size ((u:Int),(xu.length:Int)) rfl ql.out.1 ql.out.2 Ju.out (Nat.le_trans px.out iz.out.below.size) ?_);intro g9 rf w9 fg mc qk;have ee:=aL.aaf mc;have pz:(Value.slice nr xv.length nt).ownBlock.toList=T2:=(wb.out.2).symm;have jz:(⟨bo,0,none⟩:Addr).block∉(Value.slice nr xv.length nt).ownBlock.toList:=(by rw[pz];exact wj.out);have lW:(⟨g,v,none⟩:Addr).block∉(Value.slice nr xv.length nt).ownBlock.toList:=(by rw[pz];exact wd.out);have ld:=ee.cell jz hW.1;have nT:=ee.cell lW hW.2;have yr:=ee.fz lW hW.2 (bf iz.out.below BX.out Hw.out);refine HQ _ _ ⟨ld,nT⟩ ?_;have qm:=zh (kr k9.out wb.out iz.out fg mc qk wh.out wg.out);clear fg mc qk jz lW ee pz hW
  (try simp only[zA])
  simp only[aQ];go_upto_region 7 with(fail);obtain⟨Lq,cj,cX,o_⟩:=qm.out;obtain⟨w5,hw⟩:∃z,z=w9.setCell ⟨g,v,none⟩ (.slice (some ⟨g9,0,none⟩) (xv.length+1) rf):=⟨_,rfl⟩
  rw[<- hw]at cj o_ ⊢;have BY:=zh cj;have D9:=zh cX;have nu:=zh o_;clear hw cj cX o_ qm ld nT yr
  have B0:Hid (aS w5 bo (.slice (some ⟨g,0,none⟩) n.ends.length c1) (.slice AI n.ids.length cI) (.slice AN n.aaa.length cN)):=by obtain⟨r,hr⟩:=tD.out;exact⟨r,(nu.out.block bo tE.out.2 sk.out).trans hr⟩
  have Ba:Hid (bo∉Lq):=fun hj=>by
   have h2:=tE.out;rcases D9.out _ hj with h1 | h1
   ·exact sk.out h1
   ·omega
  obtain⟨xw,D_⟩:∃z,z=xu:=⟨_,rfl⟩
  have Lt:Hid ((n.ends.set v (xv++[((u:Int),(xu.length:Int))]))[u]?=some xw):=by show _=_;rw[D_];rw[List.getElem?_set_ne Ls];exact Uq.out
  have Qn:Hid (xw.length+1<=1000000):=by show _<=_;have h1:=tF.out;have h2:=HD.out;rw[D_];omega
  have pA:Hid (Below base w2 w5):=nu.out.below base px.out (fun j hj=>(sl.out.range j hj).1)
  have B4:Hid (base<=w5.heap.size):=Nat.le_trans px.out pA.out.size;have Xy:=zh D_;clear D_;have Lu:=BY;obtain⟨u5,T5,Lv,Lw,HH,wt,B5,wu,pB⟩:=Lu.out.aak Lt.out;obtain⟨tK,tL,rfl,-,-,-⟩:=id HH.read;have HU:=zh HH;have wv:=zh pB;have B6:g≠bo:=fun h=>Ba.out (h ▸ wu)
  have Qo:=zh B6;have HV:=zh B5;have HZ:=zh wu;have H4:=zh wt;have H5:=zh Lv;have Qp:=zh Lw;have H6:Hid (bo∉T5):=fun h=>Ba.out (wt _ h)
  have Lx:=zh (aS.cells B0.out);clear B6 B5 wu wt Lv Lw HH pB;refine ar (fun W=>W.cell? ⟨bo,0,none⟩=some (.slice (some ⟨g,0,none⟩) n.ends.length c1)/\W.cell? ⟨g,u,none⟩=some (.slice tK xw.length tL)) 13 [false,false,false,false,false,false,false,false,false,false,false,true,true] (by kernel_rfl) (by kernel_rfl) (show(World.drew w5).cell? ⟨bo,0,none⟩=some (.slice (some ⟨g,0,none⟩) n.ends.length c1)/\(World.drew w5).cell? ⟨g,u,none⟩=some (.slice tK xw.length tL)from⟨Lx.out.1,H5.out⟩) ?_
  simp only[df,b8,zT]
  iterate 11 (apply aU rfl;(intro W hW;(obtain⟨k0,k1⟩:=hW);go_simp;with_reducible rfl);simp only[zA])
  obtain⟨W,bB⟩:∃W,W=World.drew w5:=⟨_,rfl⟩
  rw[<- bB];have hW:=(show(World.drew w5).cell? ⟨bo,0,none⟩=some (.slice (some ⟨g,0,none⟩) n.ends.length c1)/\(World.drew w5).cell? ⟨g,u,none⟩=some (.slice tK xw.length tL)from⟨Lx.out.1,H5.out⟩);rw[<- bB]at hW;have dX:=zh bB;clear bB
  refine bD (v:=?_) (ob:=?_) rfl ?_ ?_ ?_;rotate_left 2
  (go_simp;first | with_reducible rfl | (refine⟨?_,?_⟩ <;> with_reducible rfl))
  exact⟨bc (aj _ _) hW.1,bc (aj _ _) hW.2⟩;intro w8 f6 gP
  replace hW:=gP
  clear gP
  have tI:Hid (w8=(World.drew w5).alloc (.cells #[.int .i64 (v:Int),.int .i64 (xv.length:Int)] 36)):=by show _=_;rw[f6,dX.out]
  have iz:Hid (aa w5 w8):=by show aa _ _;rw[tI.out];exact ae _ (ah (ab _))
  have pg:Hid (co w8 base (.slice tK xw.length tL) xw T5):=fm.aab HU.out iz.out.below
  have ql:Hid (w8.cell? ⟨w5.heap.size,0,none⟩=some (.int .i64 (v:Int))/\w8.cell? ⟨w5.heap.size,1,none⟩=some (.int .i64 (xv.length:Int))):=by show _/\_;rw[tI.out];exact eP (World.drew w5) _ _ _
  rw[show W.heap.size=w5.heap.size from by rw[dX.out];rfl]
  clear f6 dX
  (try simp only[zA])
  refine ci (fun Q' HQ=>?_)
  (refine gS (base:=base) (v:=.slice tK xw.length tL) (xs:=xw) rfl _ _ rfl rfl pg.out w5.heap.size ((v:Int),(xv.length:Int)) rfl ql.out.1 ql.out.2 Qn.out (Nat.le_trans B4.out iz.out.below.size) ?_);intro g9 rf w9 fg mc qk;have ee:=aL.aaf mc;have pz:(Value.slice tK xw.length tL).ownBlock.toList=T5:=(HU.out.2).symm;have jz:(⟨bo,0,none⟩:Addr).block∉(Value.slice tK xw.length tL).ownBlock.toList:=(by rw[pz];exact H6.out);have lW:(⟨g,u,none⟩:Addr).block∉(Value.slice tK xw.length tL).ownBlock.toList:=(by rw[pz];exact HV.out);have ld:=ee.cell jz hW.1;have nT:=ee.cell lW hW.2;have yr:=ee.fz lW hW.2 (bf iz.out.below H5.out Qp.out);refine HQ _ _ ⟨ld,nT⟩ ?_;have qm:=zh (kr wv.out HU.out iz.out fg mc qk H4.out HZ.out);clear fg mc qk jz lW ee pz hW
  (try simp only[zA])
  simp only[aQ];go_upto_region 8 with(fail);obtain⟨Qq,cj,cX,o_⟩:=qm.out;obtain⟨w7,hw⟩:∃z,z=w9.setCell ⟨g,u,none⟩ (.slice (some ⟨g9,0,none⟩) (xw.length+1) rf):=⟨_,rfl⟩
  rw[<- hw]at cj o_ ⊢;have H7:=zh cj;have Qr:=zh cX;have tM:=zh o_;clear hw cj cX o_ qm ld nT yr
  have FJ:Hid (ao w7 base (.slice (some ⟨g,0,none⟩) n.ends.length c1) (.slice AI n.ids.length cI) (.slice AN n.aaa.length cN) (bC n v u) Qq):=by
   have h1:=H7.out
   have e:({ ends:=(n.ends.set v (xv++[((u:Int),(xu.length:Int))])).set u (xw++[((v:Int),(xv.length:Int))]),ids:=n.ids,aaa:=n.aaa }:am)=bC n v u:=by
    have h2:=Lt.out
    have h3:bg ({ ends:=n.ends.set v (xv++[((u:Int),(xu.length:Int))]),ids:=n.ids,aaa:=n.aaa }:am) u=xw:=by unfold bg;rw[zDd];show((n.ends.set v _)[u]?).getD []=xw;rw[h2];rfl
    unfold bC;rw[if_neg Ls,<- pU.out,<- Uo.out];unfold kZ;rw[<- pU.out,h3]
   rw[<- e];exact h1
  have Lr:Hid (aS w7 bo (.slice (some ⟨g,0,none⟩) n.ends.length c1) (.slice AI n.ids.length cI) (.slice AN n.aaa.length cN)):=by obtain⟨r,hr⟩:=B0.out;exact⟨r,(tM.out.block bo (by have:=tE.out;have:=pA.out.size;omega) Ba.out).trans hr⟩
  have tJ:Hid (Below base w2 w7):=pA.out.trans (tM.out.below base B4.out (fun j hj=>(Lu.out.range j hj).1))
  have fH:aT w7 (w.heap.size+1) (.slice none 0 0) (.slice none 0 0) (.slice none 0 0):=(tJ.out.block _ (by have h2:=pw.out;have h3:=yO.out;omega)).trans (uD.out w2 g7.out)
  obtain⟨d0,d1,d2,-,-,-⟩:=Lr.out.cells;obtain⟨e0,e1,e2,f0,f1,f2⟩:=fH.box.cells;clear fH;go_wp2;refine bodyPost_ret (v:=.agg #[.slice (some ⟨g,0,none⟩) n.ends.length c1,.slice AI n.ids.length cI,.slice AN n.aaa.length cN]) (by simp[results,Tryz.results156,go_sem, *]) rfl ?_;have Un:=pw.out;have NP:=yO.out;refine⟨_,_,_,_,rfl,(FJ.out.aac (fun j hj=>?_)).mono (show w.heap.size<=base by omega),?_⟩
  ·have rC:=(FJ.out.range j hj).1;rw[Below.heap_setCell _ _ _ j (by simp;omega),Below.heap_setCell _ _ _ j (by simp;omega),Below.heap_setCell _ _ _ j (by simp;omega)]
  ·have hk:Below w.heap.size w w7:=(Below.trans fL.out (g7.out.below.mono (by omega))).trans (tJ.out.mono (by omega));exact((hk.setCell (by simp) _).setCell (by simp) _).setCell (by simp) _
def ww (n:am) (e:Int×Int):Prop:=∃(a b:Nat) (fs:List (Int×Int)),e=((a:Int),(b:Int))/\n.ends[a]?=some fs/\b<fs.length
def Dl (n:am):Prop:=∀(k:Nat) (es:List (Int×Int)),n.ends[k]?=some es->∀e∈es,ww n e
def jZ (n N:am):Prop:=∀(k:Nat) (es:List (Int×Int)),N.ends[k]?=some es->∀e∈es,ww n e
structure fS (n N:am):Prop where
 ids:N.ids=n.ids
 aaa:N.aaa=n.aaa
 len:N.ends.length=n.ends.length
 row:∀(k:Nat) (es:List (Int×Int)),n.ends[k]?=some es->∃fs,N.ends[k]?=some fs/\fs.length=es.length
theorem fS.refl (n:am):fS n n:=⟨rfl,rfl,rfl,fun _ es h=>⟨es,h,rfl⟩⟩
theorem ww.sh {n N:am} (h:fS n N) {e:Int×Int} (he:ww n e):ww N e:=by
 obtain⟨a,b,fs,h1,h2,h3⟩:=he;obtain⟨gs,h4,h5⟩:=h.row a fs h2;exact⟨a,b,gs,h1,h4,by omega⟩
theorem jZ.wf {n N:am} (h:fS n N) (ha:jZ n N):Dl N:=fun k es he e hm=>(ha k es he e hm).sh h
theorem fS.put {n N:am} (h:fS n N) {k j:Nat} {es:List (Int×Int)} (hx:N.ends[k]?=some es) (y:Int×Int):fS n { N with ends:=N.ends.set k (es.set j y) }:=⟨h.ids,h.aaa,by show(N.ends.set k _).length=_;rw[List.length_set];exact h.len,fun q fs hq=>by
 obtain⟨gs,h1,h2⟩:=h.row q fs hq
 by_cases e:q=k
 ·subst e;refine⟨es.set j y,?_,?_⟩
  ·show(N.ends.set q _)[q]?=_
   rw[List.getElem?_set_self (ai hx)]
  ·rw[hx]at h1;cases h1;rw[List.length_set];exact h2
 ·exact⟨gs,by show(N.ends.set k _)[q]?=_;rw[List.getElem?_set_ne (Ne.symm e)];exact h1,h2⟩⟩
theorem jZ.put {n N:am} (h:jZ n N) {k j:Nat} {es:List (Int×Int)} (hx:N.ends[k]?=some es) {y:Int×Int} (hy:ww n y):jZ n { N with ends:=N.ends.set k (es.set j y) }:=fun q fs hq e he=>by
 by_cases Ut:q=k
 ·subst Ut;have Ly:(N.ends.set q (es.set j y))[q]?=some fs:=hq;rw[List.getElem?_set_self (ai hx)]at Ly;cases Ly;rcases List.mem_or_eq_of_mem_set he with h1 | h1
  ·exact h q es hx e h1
  ·rw[h1];exact hy
 ·have Ly:(N.ends.set k (es.set j y))[q]?=some fs:=hq;rw[List.getElem?_set_ne (Ne.symm Ut)]at Ly;exact h q fs Ly e he
structure Cp (wa W:World) (ob g c m:Nat) (vi vn:Value) (N:am) (S:List Nat):Prop where
 own:ao W wa.heap.size (.slice (some ⟨g,0,none⟩) m c) vi vn N S
 box:aS W ob (.slice (some ⟨g,0,none⟩) m c) vi vn
 nb:ob∉S
 since:aa wa W
theorem Cp.aab {wa W W':World} {ob g c m:Nat} {vi vn:Value} {N:am} {S:List Nat} (h:Cp wa W ob g c m vi vn N S) (hs:aa W W'):Cp wa W' ob g c m vi vn N S:=
 ⟨h.own.aab hs.below,h.box.below hs h.box.lt,h.nb,h.since.after hs⟩
theorem Cp.put {wa W:World} {ob g c m:Nat} {vi vn:Value} {N:am} {S:List Nat} (h:Cp wa W ob g c m vi vn N S) {p:Addr} (hp:wa.heap.size<=p.block) (hS:p.block∉S) (ho:p.block≠ob) (u:Value):Cp wa (W.setCell p u) ob g c m vi vn N S:=
 ⟨h.own.aac (fun k hk=>Below.heap_setCell _ _ _ _ (fun e=>hS (e ▸ hk))),h.box.set ho,h.nb,h.since.setCell hp _⟩
theorem Cp.port {wa W:World} {ob g c m:Nat} {vi vn:Value} {N:am} {S:List Nat} (h:Cp wa W ob g c m vi vn N S) {k j:Nat} {es:List (Int×Int)} (hx:N.ends[k]?=some es) (hj:j<es.length):
  ∃gr cr:Nat,W.cell? ⟨g,k,none⟩=some (.slice (some ⟨gr,0,none⟩) es.length cr)/\es.length<=cr/\cr<=9223372036854775807/\gr∈S/\g≠gr/\gr≠ob/\W.frozen? ⟨gr,j*2,none⟩=false/\W.frozen? ⟨gr,j*2+1,none⟩=false/\(∃z,W.cell? ⟨gr,j*2,none⟩=some z)/\(∃z,W.cell? ⟨gr,j*2+1,none⟩=some z) /\
   ∀y:Int×Int,Cp wa ((W.setCell ⟨gr,j*2,none⟩ (.int .i64 y.1)).setCell ⟨gr,j*2+1,none⟩ (.int .i64 y.2)) ob g c m vi vn { N with ends:=N.ends.set k (es.set j y) } S:=by
 obtain⟨gr,cr,c1,c2,c3,c4,c5,c6,⟨c7,c8⟩,c9,Xz,oS⟩:=h.own.aan hx hj;have Pz:wa.heap.size<=gr:=(h.own.range gr c5).1;have hn:gr≠ob:=fun e=>h.nb (e ▸ c5)
 unfold maxLen at c3;exact⟨gr,cr,c1,c2,by omega,c5,c6,hn,c7,c8,c9,Xz,fun y=>⟨oS y,(h.box.set hn).set hn,h.nb,(h.since.setCell Pz _).setCell Pz _⟩⟩
end Go.Proofs.YtgjggeapebbcbaaGreat
