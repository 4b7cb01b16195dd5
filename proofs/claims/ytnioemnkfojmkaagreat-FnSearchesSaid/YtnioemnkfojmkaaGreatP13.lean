/- Parts of the proof: walks of functions and plain laws. -/
import Derived.Test.YtnioemnkfojmkaaGreatP0
import Derived.Test.YtnioemnkfojmkaaGreatP12
import Derived.Test.YtnioemnkfojmkaaGreatP5
import Derived.Test.YtnioemnkfojmkaaGreatP4
import Derived.BigQuiet
import Derived.Test.YtnioemnkfojmkaaGreatP2
import Derived.Laws.Bits64b
import Derived.Test.YtnioemnkfojmkaaGreatP1
import Derived.Test.YtnioemnkfojmkaaGreatP11
set_option maxRecDepth 100000
set_option maxHeartbeats 16000000
namespace Go.Proofs.YtnioemnkfojmkaaGreat
open Go Go.RowKit
theorem oD {w:World} {b:Nat} {vs:Array Value} (h:cC w b vs) (i:Nat) (u:Value):cC (w.setCell ⟨b,i,none⟩ u) b (vs.setIfInBounds i u):=by
 obtain⟨r,h⟩:=h;refine⟨r,?_⟩;simp[World.setCell,Array.getElem?_modify,h]
structure CB (cb B:Nat) (w w':World):Prop where
 os:w'.os=w.os
 tape:w'.tape=w.tape
 output:w'.output=w.output
 size:w.heap.size<=w'.heap.size
 block:∀k,k<B->k≠cb->w'.heap[k]?=w.heap[k]?
theorem CB.refl (cb B:Nat) (w:World):CB cb B w w:=⟨rfl,rfl,rfl,Nat.le_refl _,fun _ _ _=>rfl⟩
theorem CB.trans {cb B:Nat} {a b c:World} (h:CB cb B a b) (k:CB cb B b c):CB cb B a c:=
 ⟨k.os.trans h.os,k.tape.trans h.tape,k.output.trans h.output,Nat.le_trans h.size k.size,fun i hi hn=>(k.block i hi hn).trans (h.block i hi hn)⟩
theorem CB.mono {cb B B':Nat} {w w':World} (h:CB cb B w w') (hB:B'<=B):CB cb B' w w':=⟨h.os,h.tape,h.output,h.size,fun k hk hn=>h.block k (by omega) hn⟩
theorem CB.of {cb B:Nat} {w w':World} (h:Below B w w'):CB cb B w w':=⟨h.os,h.tape,h.output,h.size,fun k hk _=>h.block k hk⟩
theorem CB.below {cb B:Nat} {w w':World} (h:CB cb B w w') (hB:B<=cb):Below B w w':=⟨h.os,h.tape,h.output,h.size,fun k hk=>h.block k hk (by omega)⟩
theorem CB.setCell {cb B:Nat} {a w:World} (h:CB cb B a w) {p:Addr} (hp:B<=p.block\/p.block=cb) (u:Value):CB cb B a (w.setCell p u):=
 h.trans ⟨rfl,rfl,rfl,by simp[World.setCell],fun k hk hn=>Below.heap_setCell _ _ _ _ (by omega)⟩
theorem CB.cell {cb B:Nat} {w w':World} (h:CB cb B w w') {p:Addr} (hp:p.block<B) (hn:p.block≠cb):w'.cell? p=w.cell? p:=World.cell?_of_block (w:=w) (h.block p.block hp hn)
theorem Gj {w:World} {p:Addr} {v:Value} (h:w.cell? p=some v):p.block<w.heap.size:=by
 rcases Nat.lt_or_ge p.block w.heap.size with hl | hl
 ·exact hl
 ·exfalso
  have e:w.heap[p.block]?=none:=Array.getElem?_eq_none hl;simp[World.cell?,e]at h
def aY (cb:Nat) (w0 W:World):Prop:=CB cb w0.heap.size w0 W
theorem aY.refl (cb:Nat) (w:World):aY cb w w:=CB.refl _ _ _
theorem aY.trans {cb:Nat} {w0 W W':World} (h:aY cb w0 W) (h':CB cb W.heap.size W W'):aY cb w0 W':=CB.trans h (h'.mono h.size)
theorem aY.after {cb:Nat} {w0 W W':World} (h:aY cb w0 W) (h':aa W W'):aY cb w0 W':=h.trans (CB.of h')
theorem aq {cb:Nat} {w0:World} {p:Addr} {v:Value} (h:w0.cell? p=some v) (hn:p.block≠cb):∀W,aY cb w0 W->W.cell? p=some v:=fun W hW=>by
 rw[CB.cell hW ?_ hn]
 ·exact h
 ·exact Gj h
def Aw (w:World) (cb:Nat) (A:Option Addr) (L:Nat):Prop:=∀k,k<L->∃b off v,A=some ⟨b,off,none⟩/\b<cb/\w.cell? ⟨b,off+k,none⟩=some (.int .u8 v)/\0<=v/\v<256
theorem Aw.ac2 {w w':World} {cb:Nat} {A:Option Addr} {L:Nat} (h:Aw w cb A L) (hb:∀k,k<cb->w'.heap[k]?=w.heap[k]?):Aw w' cb A L:=fun k hk=>by
 obtain⟨b,off,v,hA,aH,hc,h1,h2⟩:=h k hk
 exact⟨b,off,v,hA,aH,by rw[World.cell?_of_block (w:=w) (hb b aH)];exact hc,h1,h2⟩
structure BB (w:World) (cb:Nat) (A:Option Addr) (L c p s:Nat):Prop where
 cells:∃r,w.heap[cb]?=some (.cells #[.slice A L c,.int .i64 p,.int .u64 s] r)
 code:Aw w cb A L
 len:L<=1048576
 cap:L<=c
 adU:s<18446744073709551616
theorem BB.ac2 {w w':World} {cb:Nat} {A:Option Addr} {L c p s:Nat} (h:BB w cb A L c p s) (hb:∀k,k<cb+1->w'.heap[k]?=w.heap[k]?):BB w' cb A L c p s:=by
 obtain⟨⟨r,h1⟩,h2,h3,h4,h5⟩:=h;exact⟨⟨r,(hb cb (by omega)).trans h1⟩,h2.ac2 (fun k hk=>hb k (by omega)),h3,h4,h5⟩
theorem BB.lt {w:World} {cb:Nat} {A:Option Addr} {L c p s:Nat} (h:BB w cb A L c p s):cb<w.heap.size:=by
 obtain⟨⟨r,h1⟩,_⟩:=h;exact(Array.getElem?_eq_some_iff.1 h1).1
theorem BB.since {w w':World} {cb:Nat} {A:Option Addr} {L c p s:Nat} (h:BB w cb A L c p s) (hs:aa w w'):BB w' cb A L c p s:=h.ac2 fun k hk=>hs.block k (by have:=h.lt;omega)
theorem BB.cellsOf {w:World} {cb:Nat} {A:Option Addr} {L c p s:Nat} (h:BB w cb A L c p s):w.cell? ⟨cb,0,none⟩=some (.slice A L c)/\w.cell? ⟨cb,1,none⟩=some (.int .i64 p)/\w.cell? ⟨cb,2,none⟩=some (.int .u64 s):=by
 obtain⟨⟨r,h1⟩,_⟩:=h;have hb:cC w cb #[.slice A L c,.int .i64 p,.int .u64 s]:=⟨r,h1⟩;exact⟨(hb.cell 0 _ rfl).1,(hb.cell 1 _ rfl).1,(hb.cell 2 _ rfl).1⟩
theorem EW (n:Int):IntKind.u64.wrap n=n%18446744073709551616:=by simp[IntKind.wrap,IntKind.bits,IntKind.signed]
theorem KZ (s b:Nat) (hb:b<256):IntKind.u64.wrap (IntKind.u64.wrap (IntKind.u64.wrap ((s:Int)*6364136223846793005)+(b:Int))+1442695040888963407)=((nx s b:Nat):Int):=by
 rw[EW,EW,EW];unfold nx;omega
theorem K5 (z:Nat) (hz:z<18446744073709551616):wrap64 (bits BinOp.and IntKind.u64 ((z:Int)/1099511627776) 255)=((byteOf z:Nat):Int):=by
 have h:=bits_and_u64_nat (z/1099511627776) 255 (by omega) (by omega);have e:(((z/1099511627776:Nat)):Int)=(z:Int)/1099511627776:=by simp
 have e2:z/1099511627776 &&& 255=byteOf z:=Nat.and_two_pow_sub_one_eq_mod _ 8
 rw[e,e2]at h;rw[show((255:Nat):Int)=255 from rfl]at h;rw[h]
 have:byteOf z<256:=by unfold byteOf;omega
 unfold wrap64;omega
theorem Gk (s b:Nat):nx s b<18446744073709551616:=Nat.mod_lt _ (by omega)
theorem CS (cb:Nat) (A:Option Addr) (L c p s:Nat) (w:World) (h:BB w cb A L c p s) (hp:p<=4611686018427387904):
  Calls Tryz.prog 117 #[.pointer (some ⟨cb,0,none⟩)] w fun e w'=>∃x s':Nat,e=.returned (.int .i64 x)/\x<256/\BB w' cb A L c (p+1) s'/\(L<=p->s'=nx s 0/\x=byteOf s')/\CB cb w.heap.size w w':=by
 obtain⟨k0,k1,k2⟩:=h.cellsOf;have p0:=ab k0;have p1:=ab k1;have p2:=ab k2;have hL:=h.len;have hc:=h.cap;have H:=zh h;clear h k0 k1 k2
 by_cases aH:p<L
 ·obtain⟨b,off,v,rfl,hb,hv,G_,M9⟩:=H.out.code p aH;have pv:=ab hv;clear hv
  go_enter Tryz.func117,Tryz.ntmps117
  go_upto_region 2 with(fail);refine am 10 (aa w) (by kernel_rfl) (by kernel_rfl) (by simp) (ag (ad _)) ?_;simp only[zT]
  iterate 10 (refine bF rfl ?_;simp only[zA])
  intro W hW;go_upto_region 3 with(fail);obtain⟨v,rfl⟩:∃n:Nat,v=(n:Int):=⟨v.toNat,by omega⟩
  have Ep:v<256:=by omega
  clear G_ M9;refine am 10 (aa w) (by kernel_rfl) (by kernel_rfl) (by simp) (ag hW) ?_;simp only[zT]
  iterate 10 (refine bF rfl ?_;simp only[zA])
  clear hW;intro W2 hW
  have dj:cC W2 cb #[.slice (some ⟨b,off,none⟩) L c,.int .i64 p,.int .u64 s]:=by
   obtain⟨r,hr⟩:=H.out.cells;exact⟨r,(hW.block cb H.out.lt).trans hr⟩
  have m1:IntKind.i64.wrap ((p:Int)+1)=(p:Int)+1:=aE _ (by omega) (by omega);have m2:=KZ s v (by omega);have f1:=(dj.cell 1 _ rfl).2;have f2:=(dj.cell 2 _ rfl).2;have g0:=(dj.cell 0 _ rfl).1;have g1:=(dj.cell 1 _ rfl).1;have g2:=(dj.cell 2 _ rfl).1;have Hb:=zh dj;clear dj p0 p1 p2 pv;go_upto_region 6 with(fail);obtain⟨w3,gZ⟩:∃z,z=(W2.setCell ⟨cb,1,none⟩ (.int .i64 ((p:Int)+1))).setCell ⟨cb,2,none⟩ (.int .u64 (nx s v:Nat)):=⟨_,rfl⟩
  rw[<- gZ]
  have aG:cC w3 cb #[.slice (some ⟨b,off,none⟩) L c,.int .i64 ((p:Int)+1),.int .u64 (nx s v:Nat)]:=by rw[gZ];exact oD (oD Hb.out 1 _) 2 _
  have mB:CB cb w.heap.size w w3:=by rw[gZ];exact((CB.of hW).setCell (p:=⟨cb,1,none⟩) (.inr rfl) _).setCell (p:=⟨cb,2,none⟩) (.inr rfl) _
  have q0:=ab (aG.cell 0 _ rfl).1;have q1:=ab (aG.cell 1 _ rfl).1;have q2:=ab (aG.cell 2 _ rfl).1;have pP:=zh aG;have ux:=zh mB;clear aG mB gZ g0 g1 g2 f1 f2 hW Hb;refine am 10 (aa w3) (by kernel_rfl) (by kernel_rfl) (by simp) (ag (ad _)) ?_;simp only[zT]
  iterate 10 (refine bF rfl ?_;simp only[zA])
  intro W4 jT
  have uG:((p:Int)+1<=(L:Int))=True:=by simp;omega
  go_wp2_with fail;go_ret;refine⟨v,nx s v,rfl,Ep,⟨?_,?_,hL,hc,Gk _ _⟩,fun h=>absurd h (by omega),ux.out.trans (CB.mono (CB.of jT) ux.out.size)⟩
  ·obtain⟨r,hr⟩:=pP.out;exact⟨r,(jT.block cb (pP.out.lt)).trans hr⟩
  ·exact H.out.code.ac2 (fun k hk=>by
    have h1:=H.out.lt;have h2:=ux.out.size
    exact(jT.block k (by omega)).trans (ux.out.block k (by omega) (by omega)))
 ·have hge:((p:Int)<(L:Int))=False:=by simp;omega
  go_enter Tryz.func117,Tryz.ntmps117
  go_upto_region 2 with(fail);refine am 10 (aa w) (by kernel_rfl) (by kernel_rfl) (by simp) (ag (ad _)) ?_;simp only[zT]
  iterate 10 (refine bF rfl ?_;simp only[zA])
  intro W2 hW
  have dj:cC W2 cb #[.slice A L c,.int .i64 p,.int .u64 s]:=by
   obtain⟨r,hr⟩:=H.out.cells;exact⟨r,(hW.block cb H.out.lt).trans hr⟩
  have m1:IntKind.i64.wrap ((p:Int)+1)=(p:Int)+1:=aE _ (by omega) (by omega)
  have m2:IntKind.u64.wrap (IntKind.u64.wrap (IntKind.u64.wrap ((s:Int)*6364136223846793005))+1442695040888963407)=((nx s 0:Nat):Int):=by have:=KZ s 0 (by omega);simpa using this
  have f1:=(dj.cell 1 _ rfl).2;have f2:=(dj.cell 2 _ rfl).2;have g0:=(dj.cell 0 _ rfl).1;have g1:=(dj.cell 1 _ rfl).1;have g2:=(dj.cell 2 _ rfl).1;have Hb:=zh dj;clear dj p0 p1 p2;go_upto_region 6 with(fail);obtain⟨w3,gZ⟩:∃z,z=(W2.setCell ⟨cb,1,none⟩ (.int .i64 ((p:Int)+1))).setCell ⟨cb,2,none⟩ (.int .u64 (nx s 0:Nat)):=⟨_,rfl⟩
  rw[<- gZ]
  have aG:cC w3 cb #[.slice A L c,.int .i64 ((p:Int)+1),.int .u64 (nx s 0:Nat)]:=by rw[gZ];exact oD (oD Hb.out 1 _) 2 _
  have mB:CB cb w.heap.size w w3:=by rw[gZ];exact((CB.of hW).setCell (p:=⟨cb,1,none⟩) (.inr rfl) _).setCell (p:=⟨cb,2,none⟩) (.inr rfl) _
  have q0:=ab (aG.cell 0 _ rfl).1;have q1:=ab (aG.cell 1 _ rfl).1;have q2:=ab (aG.cell 2 _ rfl).1;have pP:=zh aG;have ux:=zh mB;clear aG mB gZ g0 g1 g2 f1 f2 hW Hb;refine am 10 (aa w3) (by kernel_rfl) (by kernel_rfl) (by simp) (ag (ad _)) ?_;simp only[zT]
  iterate 10 (refine bF rfl ?_;simp only[zA])
  intro W4 jT
  have uG:((p:Int)+1<=(L:Int))=False:=by simp;omega
  go_wp2_with fail;go_ret
  refine⟨byteOf (nx s 0),nx s 0,by rw[K5 _ (Gk _ _)];rfl,by unfold byteOf;omega,⟨?_,?_,hL,hc,Gk _ _⟩,fun _=>⟨rfl,rfl⟩,ux.out.trans (CB.mono (CB.of jT) ux.out.size)⟩
  ·obtain⟨r,hr⟩:=pP.out;exact⟨r,(jT.block cb (pP.out.lt)).trans hr⟩
  ·exact H.out.code.ac2 (fun k hk=>by
    have h1:=H.out.lt;have h2:=ux.out.size
    exact(jT.block k (by omega)).trans (ux.out.block k (by omega) (by omega)))
theorem wZ (cb:Nat) (A:Option Addr) (L c p s n:Nat) (w:World) (h:BB w cb A L c p s) (hp:p<=4611686018427387000) (hn:n<=1048576):
  Calls Tryz.prog 65 #[.pointer (some ⟨cb,0,none⟩),.int .i64 n] w fun e w'=>∃x p' s':Nat,e=.returned (.int .i64 x)/\(x=0\/x<n)/\p<=p'/\p'<=p+2/\BB w' cb A L c p' s'/\(2<=n->n<=200->p'=p+1/\(L<=p->s'=nx s 0/\x=byteOf s'%n))/\CB cb w.heap.size w w':=by
 have H:=zh h;clear h
 go_enter Tryz.func65,Tryz.ntmps65
 by_cases h1:n<=1
 ·have e1:((n:Int)<=1)=True:=by simp;omega
  go_wp2_with fail;go_ret;exact⟨0,p,s,rfl,.inl rfl,Nat.le_refl _,by omega,H.out,fun h=>absurd h (by omega),CB.refl _ _ _⟩
 ·have e1:((n:Int)<=1)=False:=by simp;omega
  go_wp2_with fail;refine(CS cb A L c p s _ H.out (by omega)).mono ?_;rintro e w1 ⟨x,s1,rfl,hx,dG,xW,ky⟩;have HC:=zh ky;have Nf:=zh dG;have Hl:=zh xW;clear dG xW ky
  by_cases h2:n<=200
  ·have e2:((200:Int)<(n:Int))=False:=by simp;omega
   have m1:IntKind.i64.wrap ((x:Int)%(n:Int))=(x:Int)%(n:Int):=by
    have q1:=Int.emod_nonneg (x:Int) (show(n:Int)≠0 by omega)
    have q2:=Int.emod_lt_of_pos (x:Int) (show(0:Int)<n by omega)
    exact aE _ (by omega) (by omega)
   have m2:(x:Int).tmod (n:Int)=(x:Int)%(n:Int):=Int.tmod_eq_emod_of_nonneg (by omega)
   have m3:((n:Int)=0)=False:=by simp;omega
   have m4:(n=0)=False:=by simp;omega
   go_wp2_with fail;go_ret;refine⟨x%n,p+1,s1,jG (by simp),.inr (Nat.mod_lt _ (by omega)),by omega,by omega,Nf.out,fun _ _=>⟨rfl,fun h=>?_⟩,HC.out⟩
   obtain⟨q1,q2⟩:=Hl.out h;exact⟨q1,by rw[q2]⟩
  ·have e2:((200:Int)<(n:Int))=True:=by simp;omega
   have m5:IntKind.i64.wrap ((x:Int)*256)=(x:Int)*256:=aE _ (by omega) (by omega);go_wp2_with fail;refine(CS cb A L c (p+1) s1 _ Nf.out (by omega)).mono ?_;rintro e w2 ⟨y,s2,rfl,hy,lK,zO,pX⟩;have Ju:=zh pX;have Hc2:=zh lK;clear lK zO pX;obtain⟨z,hz⟩:∃z:Nat,z=x*256+y:=⟨_,rfl⟩
   have m6:(x:Int)*256+(y:Int)=(z:Int):=by omega
   have m7:IntKind.i64.wrap (z:Int)=(z:Int):=aE _ (by omega) (by omega)
   have m1:IntKind.i64.wrap ((z:Int)%(n:Int))=(z:Int)%(n:Int):=by
    have q1:=Int.emod_nonneg (z:Int) (show(n:Int)≠0 by omega)
    have q2:=Int.emod_lt_of_pos (z:Int) (show(0:Int)<n by omega)
    exact aE _ (by omega) (by omega)
   have m2:(z:Int).tmod (n:Int)=(z:Int)%(n:Int):=Int.tmod_eq_emod_of_nonneg (by omega)
   have m3:((n:Int)=0)=False:=by simp;omega
   have m4:(n=0)=False:=by simp;omega
   clear hz;go_wp2_with fail;go_ret;refine⟨z%n,p+1+1,s2,jG (by simp),.inr (Nat.mod_lt _ (by omega)),by omega,by omega,Hc2.out,fun _ h=>absurd h (by omega),HC.out.trans (Ju.out.mono HC.out.size)⟩
def bB (w:World) (cb:Nat) (A:Option Addr) (L c P:Nat):Prop:=∃p s,BB w cb A L c p s/\p<=P
theorem bB.lt {w:World} {cb:Nat} {A:Option Addr} {L c P:Nat} (h:bB w cb A L c P):cb<w.heap.size:=by obtain⟨p,s,h,_⟩:=h;exact h.lt
theorem bB.since {w w':World} {cb:Nat} {A:Option Addr} {L c P:Nat} (h:bB w cb A L c P) (hs:aa w w'):bB w' cb A L c P:=by obtain⟨p,s,h,hp⟩:=h;exact⟨p,s,h.since hs,hp⟩
theorem bB.ac2 {w w':World} {cb:Nat} {A:Option Addr} {L c P:Nat} (h:bB w cb A L c P) (hb:∀k,k<cb+1->w'.heap[k]?=w.heap[k]?):bB w' cb A L c P:=by obtain⟨p,s,h,hp⟩:=h;exact⟨p,s,h.ac2 hb,hp⟩
theorem bB.mono {w:World} {cb:Nat} {A:Option Addr} {L c P P':Nat} (h:bB w cb A L c P) (hP:P<=P'):bB w cb A L c P':=by obtain⟨p,s,h,hp⟩:=h;exact⟨p,s,h,by omega⟩
theorem ej.seen {β:Type} {R:World->Nat->Value->β->List Nat->Prop} (L:ej R) {w w':World} {base cb:Nat} {v:Value} {x:β} {S:List Nat} (h:R w base v x S) (hC:aY cb w w') (hb:cb<base):R w' base v x S:=
 L.ac4 h fun k hk=>hC.block k (L.range h k hk).2 (by have:=(L.range h k hk).1;omega)
theorem au.seen {w w':World} {base cb:Nat} {a b d:Value} {n:aw} {S:List Nat} (h:au w base a b d n S) (hC:aY cb w w') (hb:cb<base):au w' base a b d n S:=
 h.ac4 fun k hk=>hC.block k (h.range k hk).2 (by have:=(h.range k hk).1;omega)
theorem Own.seen {w w':World} {base cb:Nat} {v:Value} {xs:List Int} (h:Own w base v xs) (hC:aY cb w w') (hb:cb<base):Own w' base v xs:=(ej.seen er (S:=v.ownBlock.toList) ⟨h,rfl⟩ hC hb).1
theorem db (cb:Nat) (A:Option Addr) (L c P:Nat) (z:Int) (w:World) (h:bB w cb A L c P) (hP:P<=4611686018427387000) (hz:0<=z/\z<=1048576):
  Calls Tryz.prog 65 #[.pointer (some ⟨cb,0,none⟩),.int .i64 z] w fun e w'=>∃x:Nat,e=.returned (.int .i64 x)/\(x=0\/(x:Int)<z)/\bB w' cb A L c (P+2)/\CB cb w.heap.size w w':=by
 obtain⟨p,s,h,hp⟩:=h;obtain⟨n,rfl⟩:∃n:Nat,z=(n:Int):=⟨z.toNat,by omega⟩
 refine(wZ cb A L c p s n w h (by omega) (by omega)).mono ?_;rintro e w' ⟨x,p',s',rfl,hx,h1,h2,hc,_,hC⟩;exact⟨x,rfl,by omega,⟨p',s',hc,by omega⟩,hC⟩
theorem lF (cb:Nat) (A:Option Addr) (L c P:Nat) (z:Int) (w:World) (h:bB w cb A L c P) (hP:P<=4611686018427387000) (hz:0<=z/\z<=1048576):
  Calls Tryz.prog 67 #[.pointer (some ⟨cb,0,none⟩),.int .i64 z] w fun e w'=>∃b:Bool,e=.returned (.bool b)/\bB w' cb A L c (P+2)/\CB cb w.heap.size w w':=by
 have H:=zh h;clear h
 go_enter Tryz.func67,Tryz.ntmps67
 go_wp2_with fail;refine(db cb A L c P z _ H.out hP hz).mono ?_;rintro e w1 ⟨x,rfl,-,dG,ky⟩;have HC:=zh ky;have Nf:=zh dG;clear dG ky;go_wp2_with fail;go_ret;exact⟨_,rfl,Nf.out,HC.out⟩
theorem kz (cb:Nat) (A:Option Addr) (L c P:Nat) (B g q:Nat) (xs:List Int) (w:World) (h:bB w cb A L c P) (hP:P<=4611686018427387000) (ho:Own w B (.slice (some ⟨g,0,none⟩) xs.length q) xs) (hB:cb<B) (hx:1<=xs.length) (sq:xs.length<=1048576):
  Calls Tryz.prog 46 #[.pointer (some ⟨cb,0,none⟩),.slice (some ⟨g,0,none⟩) xs.length q] w fun e w'=>∃x,e=.returned (.int .i64 x)/\x∈xs/\bB w' cb A L c (P+2)/\CB cb w.heap.size w w':=by
 have H:=zh h;have Ho:=zh ho;clear h ho
 go_enter Tryz.func46,Tryz.ntmps46
 go_wp2_with fail;refine(db cb A L c P xs.length _ H.out hP (by omega)).mono ?_;rintro e w1 ⟨x,rfl,hx3,dG,ky⟩;have sx:x<xs.length:=by omega
 obtain⟨y,hy⟩:=ay xs x sx;have c1:=(Ho.out.seen (cb:=cb) ky hB).cell hy;have Hy:=zh hy;have HC:=zh ky;have Nf:=zh dG;clear dG ky hy hx3;go_wp2_with fail;go_ret;exact⟨y,rfl,List.mem_of_getElem? Hy.out,Nf.out,HC.out⟩
def lT (n:Nat) (xs:List Int):Prop:=∀x∈xs,0<=x/\x<(n:Int)
theorem lT.set {n:Nat} {xs:List Int} (h:lT n xs) (k:Nat) {x:Int} (hx:0<=x/\x<(n:Int)):lT n (xs.set k x):=fun y hy=>by
 rcases List.mem_or_eq_of_mem_set hy with h1 | h1
 ·exact h y h1
 ·rw[h1];exact hx
theorem EX (cb:Nat) (A:Option Addr) (L c P n:Nat) (w:World) (h:bB w cb A L c P) (hP:P<=4611686018427000000) (hn:n<=100):
  Calls Tryz.prog 172 #[.pointer (some ⟨cb,0,none⟩),.int .i64 n] w fun e w'=>∃g xs,e=.returned (.slice (some ⟨g,0,none⟩) n n)/\Own w' w.heap.size (.slice (some ⟨g,0,none⟩) n n) xs/\lT n xs/\bB w' cb A L c (P+200)/\CB cb w.heap.size w w':=by
 have H:=zh h;have ia:=h.lt;clear h
 go_enter Tryz.func172,Tryz.ntmps172
 go_wp2_with (at_make;refine zJ _ rfl _ _ rfl _ _ n rfl rfl rfl rfl (by omega) ?_;intro w1 ij aX dP;have dw:aa w w1:=aX)
 have uZ:=zh dP;clear aX dP
 go_loopw [14] (fun i wr=>∃(k:Nat) (xs:List Int),k<=n/\i=.int .i64 k/\Own wr w.heap.size (.slice (some ⟨w.heap.size,0,none⟩) n n) xs/\lT n xs/\aa w wr/\w.heap.size<wr.heap.size) (fun i _=>n-(intOf i).toNat)
 case atStart=>
  refine⟨0,_,Nat.zero_le _,rfl,ij,fun x hx=>?_,dw,uZ.out⟩
  obtain⟨h1,rfl⟩:=List.mem_replicate.1 hx;omega
 case round=>
  obtain⟨k,xs,hk,rfl,ho,hB,fd,hzr⟩:=hrel;have HB:=zh hB;have mY:=zh fd;have Ho:=zh ho;have OH:=zh hzr
  by_cases aH:k<n
  ·have f0:=ho.free k
   obtain⟨y,hy⟩:=ay xs k (by have:=ho.len;omega)
   have c0:=ho.cell hy;have m1:IntKind.i64.wrap ((k:Int)+1)=(k:Int)+1:=aE _ (by omega) (by omega);clear ho hB fd hzr hy ij dw;go_wp2;go_roundw
   case rel=>
    refine⟨k+1,_,by omega,by first | rfl | go_num,Ho.out.set (k:Int),HB.out.set k (by omega),mY.out.setCell (by simp) _,?_⟩
    show _<(wr.setCell _ _).heap.size
    rw[gt];exact OH.out
   case measure=>simp[intOf];omega
  ·obtain rfl:k=n:=by omega
   have acn:=zh ij;clear ho hB fd hzr ij dw;have m1:IntKind.i64.wrap ((k:Int)-1)=(k:Int)-1:=aE _ (by omega) (by omega);obtain⟨wo,rfl⟩:∃z,z=wr:=⟨_,rfl⟩
   go_wp2
   go_loopw [7] (fun i wr=>∃(z:Int) (xs:List Int),-1<=z/\z<(k:Int)/\i=.int .i64 z/\Own wr w.heap.size (.slice (some ⟨w.heap.size,0,none⟩) k k) xs/\lT k xs/\bB wr cb A L c (P+2*(k-z.toNat))/\CB cb w.heap.size w wr/\w.heap.size<wr.heap.size) (fun i _=>(intOf i).toNat)
   case atStart=>exact⟨(k:Int)-1,xs,by omega,by omega,by go_num,Ho.out,HB.out,(H.out.since mY.out).mono (by omega),CB.of mY.out,OH.out⟩
   case round=>
    obtain⟨z,ys,dP,eO,rfl,ho,hB,hc,hC,Xd⟩:=hrel;have np:=zh hB;have nW:=zh ho;have Hc2:=zh hc;have Ju:=zh hC;have Xe:=zh Xd;clear ho hB hc hC Xd
    by_cases hgt:0<z
    ·obtain⟨j,rfl⟩:∃j:Nat,z=(j:Int):=⟨z.toNat,by omega⟩
     have tB:1<=j:=by omega
     have uF:j<k:=by omega
     have m2:IntKind.i64.wrap ((j:Int)+1)=(j:Int)+1:=aE _ (by omega) (by omega);have m3:IntKind.i64.wrap ((j:Int)-1)=(j:Int)-1:=aE _ (by omega) (by omega);clear dP eO;go_wp2_with fail;refine(db cb A L c _ ((j:Int)+1) wr Hc2.out (by omega) (by omega)).mono ?_;rintro e w3 ⟨x,rfl,hx,DZ,mB⟩;have hxk:x<k:=by omega
     have iH:=nW.out.seen (cb:=cb) mB ia;have dQ:=iH.len;obtain⟨a,ha⟩:=ay ys j (by omega);obtain⟨b,hb⟩:=ay ys x (by omega);have c1:=iH.cell ha;have c2:=iH.cell hb;have f1:=iH.free j;have f2:=iH.free x;have Kh:=zh iH;have Hc3:=zh DZ;have ux:=zh mB;have Ha:=zh (np.out a (List.mem_of_getElem? ha));have Hbm:=zh (np.out b (List.mem_of_getElem? hb));have lM:=zh dQ;clear hx iH DZ mB ha hb dQ;go_upto_region 13 with(fail);have xS:=Kh.out.set (k:=j) b;have j_:CB cb w.heap.size w3 (w3.setCell ⟨w.heap.size,j,none⟩ (.int .i64 b)):=(CB.refl cb w.heap.size w3).setCell (p:=⟨w.heap.size,j,none⟩) (.inl (Nat.le_refl _)) _
     have Xf:∀q,q<cb+1->(w3.setCell ⟨w.heap.size,j,none⟩ (.int .i64 b)).heap[q]?=w3.heap[q]?:=fun q hq=>Below.heap_setCell _ _ _ _ (by show q≠w.heap.size;omega)
     obtain⟨w4,mu⟩:∃z,z=w3.setCell ⟨w.heap.size,j,none⟩ (.int .i64 b):=⟨_,rfl⟩
     rw[<- mu]at xS j_ Xf ⊢
     obtain⟨d,hd⟩:=ay (ys.set j b) x (by rw[List.length_set,lM.out];exact hxk)
     have c4:=xS.cell hd;have f4:=xS.free x;have Ho4:=zh xS;have EY:=zh j_;have Hk4:=zh Xf;clear mu hd xS j_ Xf c1 c2 f1 f2;go_wp2;go_roundw
     case rel=>
      have hh:w.heap.size<w4.heap.size:=Nat.lt_of_lt_of_le Xe.out (Nat.le_trans ux.out.size EY.out.size)
      refine⟨(j:Int)-1,(ys.set j b).set x a,by omega,by omega,by first | rfl | go_num,Ho4.out.set a,(np.out.set j Hbm.out).set x Ha.out,?_,((Ju.out.trans (ux.out.mono (by have:=Xe.out;omega))).trans EY.out).setCell (p:=⟨w.heap.size,x,none⟩) (.inl (Nat.le_refl _)) _,by rw[gt];exact hh⟩
      have h1:=(Hc3.out.ac2 Hk4.out).ac2 (w':=w4.setCell ⟨w.heap.size,x,none⟩ (.int .i64 a)) (fun q hq=>Below.heap_setCell _ _ _ _ (by show q≠w.heap.size;omega))
      exact h1.mono (by omega)
     case measure=>simp[intOf];omega
    ·have HF:=zh hgt;go_wp2;go_ret;exact⟨w.heap.size,rfl,ys,nW.out,np.out,Hc2.out.mono (by omega),Ju.out⟩
theorem fK (n:Nat) (hn:n<=1000000) (w:World):Calls Tryz.prog 131 #[.int .i64 n] w (qu w (aS n)):=by
 have m1:=BW n hn;have m2:=nZ n hn
 go_enter Tryz.func131,Tryz.ntmps131
 go_wp2
 go_region
 ·go_wp2;refine bodyPost_ret (v:=.agg #[.slice (some ⟨w.heap.size+1,0,none⟩) n n,.slice none 0 0,.slice (some ⟨w.heap.size+1+1,0,none⟩) n n]) (by simp[results,Tryz.results131,go_sem]) rfl ?_;exact⟨_,_,_,_,rfl,(D8 w _ n hn).drew,(JP _ _ _ _).drew⟩
 ·go_wp2;refine bodyPost_ret (v:=.agg #[.slice (some ⟨w.heap.size+1+1,0,none⟩) n n,.slice none 0 0,.slice (some ⟨w.heap.size+1,0,none⟩) n n]) (by simp[results,Tryz.results131,go_sem]) rfl ?_;exact⟨_,_,_,_,rfl,(BY w _ n hn).drew,(JP _ _ _ _).drew⟩
structure qP (n:aw):Prop where
 ends:n.ends.length<=1000
 row:∀(k:Nat) (es:List (Int×Int)),n.ends[k]?=some es->es.length<=1000
 sz:gO n<=1048576
def be (n:aw) (v:Nat):List (Int×Int):=n.ends.getD v []
def qQ (n:aw) (v:Nat) (e:Int×Int):aw:={ n with ends:=n.ends.set v (be n v++[e]) }
def jp (n:aw) (v:Nat):aw:=qQ n v ((v:Int),((be n v).length:Int))
def dC (n:aw) (v u:Nat):aw:=qQ (qQ n v ((u:Int),if v=u then ((be n u).length:Int)+1 else ((be n u).length:Int))) u ((v:Int),((be n v).length:Int))
theorem bK {n:aw} {v:Nat} (hv:v<n.ends.length):n.ends[v]?=some (be n v):=by
 unfold be;rw[zDd,List.getElem?_eq_getElem hv];rfl
theorem ib (n:aw) (v:Nat) (e:Int×Int):(qQ n v e).ends.length=n.ends.length:=by simp[qQ]
theorem au.head {w:World} {base k c:Nat} {A:Option Addr} {vi vn:Value} {N:aw} {S:List Nat} (h:au w base (.slice A k c) vi vn N S) (h0:0<N.ends.length):∃g,A=some ⟨g,0,none⟩/\k=N.ends.length:=by
 obtain⟨S1,S2,S3,⟨vs,Ss,h1,_⟩,_⟩:=h;have h3:=dh h1;rcases h3 with⟨hv,h2⟩ | ⟨g,c',hv,_⟩
 ·omega
 ·cases hv;exact⟨g,rfl,rfl⟩
theorem m_ {wc w8 w9:World} {base g c k v g9 cc:Nat} {vi vn u:Value} {N:aw} {S T:List Nat} {x:List (Int×Int)} {y:Int×Int}
  (BZ:∀(u':Value) (x':List (Int×Int)) (T':List Nat) (w':World),eq w' base u' x' T'->aR T wc w'->(∀j∈T',j∈T\/wc.heap.size<=j)->∃S',au (w'.setCell ⟨g,v,none⟩ u') base (.slice (some ⟨g,0,none⟩) k c) vi vn { N with ends:=N.ends.set v x' } S'/\∀j∈S',j∈S\/wc.heap.size<=j)
  (hR:eq wc base u x T) (h8:aa wc w8) (fV:eq w9 base (.slice (some ⟨g9,0,none⟩) (x.length+1) cc) (x++[y]) [g9]) (ql:w8.grownBy w9 u.ownBlock) (u_:u.ownBlock=some g9\/g9=w8.heap.size) (NM:∀j∈T,j∈S) (uI:g∈S):
  ∃S',au (w9.setCell ⟨g,v,none⟩ (.slice (some ⟨g9,0,none⟩) (x.length+1) cc)) base (.slice (some ⟨g,0,none⟩) k c) vi vn { N with ends:=N.ends.set v (x++[y]) } S'/\(∀j∈S',j∈S\/wc.heap.size<=j)/\aR S wc (w9.setCell ⟨g,v,none⟩ (.slice (some ⟨g9,0,none⟩) (x.length+1) cc)):=by
 have hT:T=u.ownBlock.toList:=hR.2
 have h19:aR T wc w9:=by rw[hT];exact(aR.ac7 h8).trans (aR.ac9 ql)
 obtain⟨S',h1,h2⟩:=BZ _ _ _ _ fV h19 (fun j hj=>by
  simp at hj;subst hj
  rcases u_ with h | h
  ·left;rw[hT,h];simp
  ·right;rw[h];exact h8.size)
 exact⟨S',h1,h2,(h19.mono NM).setCell (.inl uI) _⟩
theorem qR (ve vi vn:Value) (n:aw) (v:Nat) (w:World) (h:aU w ve vi vn n) (hv:v<n.ends.length) (hn:qP n):
  Calls Tryz.prog 127 #[.agg #[ve,vi,vn],.int .i64 v] w (qu w (jp n v)):=by
 have Gl:=zh hn;clear hn
 obtain⟨w0,A,c,A2,c2,A3,c3,rfl,rfl,rfl,f_,hm,fq,fF,HA,cS,bQ,H,gP,ig,ii⟩:=zB h;clear h
 obtain⟨wa,iY⟩:∃wa,wa=w0.alloc (.cells #[.slice none 0 0,.slice none 0 0,.slice none 0 0] 30):=⟨_,rfl⟩
 have ju:aa w0 wa:=by rw[iY];exact ae _ (ad _)
 have ll:w0.heap.size=w.heap.size+1:=by rw[cS.out];simp
 have tL:Hid (wa.heap.size=w.heap.size+1+1):=by show _=_;rw[iY,<- ll];simp
 have uq:Hid (∀X,aa wa X->bA X (w.heap.size+1) (.slice none 0 0) (.slice none 0 0) (.slice none 0 0)):=fun X hX=>by
  refine bA.since (W:=wa) ?_ hX;rw[iY,<- ll];show(w0.heap.push _)[w0.heap.size]?=_
  rw[Array.getElem?_push_size]
 have Ge:=aj gP ju;have Gf:=aj ig ju;have EF:=aj ii ju;have Al:=zh iY;have mA:=zh ju;have fE:Hid (Below w.heap.size w wa):=Below.trans bQ.out (ju.below.mono bQ.out.size);clear iY ju ll gP ig ii
 go_enter Tryz.func127,Tryz.ntmps127
 go_upto_region 1 with(fail);rw[<- cS.out,<- Al.out];have hs:aa wa wa:=ad _;go_wp2_with fail;refine(kF _ _ _ n wa (H.out.ac2 mA.out.below) Gl.out.ends Gl.out.row Gl.out.sz).mono ?_;rintro e w1 ⟨we,wi,wn,S,rfl,ho,aX⟩;obtain⟨A1,c1,rfl,-,-,-⟩:=id ho.read.1;obtain⟨AI,cI,rfl,-,-,-⟩:=id ho.read.2.1;obtain⟨AN,cN,rfl,-,-,-⟩:=id ho.read.2.2;obtain⟨g,rfl,-⟩:=ho.head (by omega);obtain⟨base,iB⟩:∃base,base=wa.heap.size:=⟨_,rfl⟩
 rw[<- iB]at ho;have dw:aa wa w1:=hs.trans aX;obtain⟨w2,eH⟩:∃z,z=w1.alloc (.cells #[.slice (some ⟨g,0,none⟩) n.ends.length c1,.slice AI n.ids.length cI,.slice AN n.ac1.length cN] 30):=⟨_,rfl⟩
 obtain⟨bo,jx⟩:∃z,z=w1.heap.size:=⟨_,rfl⟩
 have ko:aa w1 w2:=by rw[eH];exact ae _ (ad _)
 have EG:aZ w2 bo (.slice (some ⟨g,0,none⟩) n.ends.length c1) (.slice AI n.ids.length cI) (.slice AN n.ac1.length cN):=by rw[eH,jx];exact aZ.new _ _ _ _ _
 have Iv:bo∉S:=fun hj=>by have:=(ho.range _ hj).2;omega
 have rU:=zh iB;have py:=zh eH;have rL:=zh jx;have tM:=zh (ho.ac2 ko.below);have CT:=zh EG;have qE:=zh Iv;have gn:=zh (dw.after ko)
 have CU:Hid (base<=bo/\bo<w2.heap.size):=⟨by rw[iB,jx];exact dw.below.size,by rw[eH,jx];simp⟩
 have qS:=bK hv;obtain⟨xv,gb⟩:∃x,x=be n v:=⟨_,rfl⟩
 rw[<- gb]at qS;have lq:=zh gb;have SA:=zh qS;have mw:Hid (xv.length<=1000):=Gl.out.row _ _ qS;clear iB eH jx ho EG Iv dw ko aX hs gb qS Ge Gf EF;have xW:=mw.out
 have Qx:Hid (xv.length+1<=1000000):=by show _<=_;omega
 have tb:Hid (base<=w2.heap.size):=by show _<=_;have:=CU.out;omega
 clear xW;go_upto_region 2 with(fail);rw[<- py.out,<- rL.out];obtain⟨u2,T2,zM,Bu,pY,na,rV,nJ,i9⟩:=tM.out.ade SA.out;obtain⟨oF,oG,rfl,-,-,-⟩:=id pY.read;have sT:=zh pY;have nd:=zh i9;have w_:g≠bo:=fun h=>qE.out (h ▸ nJ)
 have SB:=zh w_;have Ax:=zh rV;have Ay:=zh nJ;have Az:=zh na;have EZ:=zh zM;have OI:=zh Bu;have AA:Hid (bo∉T2):=fun h=>qE.out (na _ h)
 have np:=zh (aZ.cells CT.out);clear w_ rV nJ na zM Bu pY i9;refine av (fun W=>W.cell? ⟨bo,0,none⟩=some (.slice (some ⟨g,0,none⟩) n.ends.length c1)/\W.cell? ⟨g,v,none⟩=some (.slice oF xv.length oG)) 18 [false,false,false,false,false,false,false,false,false,false,false,false,false,false,false,false,true,true] (by kernel_rfl) (by kernel_rfl) (show(World.drew w2).cell? ⟨bo,0,none⟩=some (.slice (some ⟨g,0,none⟩) n.ends.length c1)/\(World.drew w2).cell? ⟨g,v,none⟩=some (.slice oF xv.length oG)from⟨np.out.1,EZ.out⟩) ?_
 simp only[ek,dD,zT]
 iterate 16 (apply bh rfl;(intro W hW;(obtain⟨k0,k1⟩:=hW);go_simp;with_reducible rfl);simp only[zA])
 obtain⟨W,cA⟩:∃W,W=World.drew w2:=⟨_,rfl⟩
 rw[<- cA];have hW:=(show(World.drew w2).cell? ⟨bo,0,none⟩=some (.slice (some ⟨g,0,none⟩) n.ends.length c1)/\(World.drew w2).cell? ⟨g,v,none⟩=some (.slice oF xv.length oG)from⟨np.out.1,EZ.out⟩);rw[<- cA]at hW;have eU:=zh cA;clear cA
 refine bC (v:=?_) (ob:=?_) rfl ?_ ?_ ?_;rotate_left 2
 (go_simp;first | with_reducible rfl | (refine⟨?_,?_⟩ <;> with_reducible rfl))
 exact⟨bc (ao _ _) hW.1,bc (ao _ _) hW.2⟩;intro w8 gJ iX
 replace hW:=iX
 clear iX
 have zr:Hid (w8=(World.drew w2).alloc (.cells #[.int .i64 (v:Int),.int .i64 (xv.length:Int)] 104)):=by show _=_;rw[gJ,eU.out]
 have kD:Hid (aa w2 w8):=by show aa _ _;rw[zr.out];exact ae _ (ag (ad _))
 have uy:Hid (eq w8 base (.slice oF xv.length oG) xv T2):=fY.ac2 sT.out kD.out.below
 have vd:Hid (w8.cell? ⟨w2.heap.size,0,none⟩=some (.int .i64 (v:Int))/\w8.cell? ⟨w2.heap.size,1,none⟩=some (.int .i64 (xv.length:Int))):=by show _/\_;rw[zr.out];exact ld (World.drew w2) _ _ _
 rw[show W.heap.size=w2.heap.size from by rw[eU.out];rfl]
 clear gJ eU
 (try simp only[zA])
 refine c_ (fun Q' HQ=>?_)
 (refine jV (base:=base) (v:=.slice oF xv.length oG) (xs:=xv) rfl _ _ rfl rfl uy.out w2.heap.size ((v:Int),(xv.length:Int)) rfl vd.out.1 vd.out.2 Qx.out (Nat.le_trans tb.out kD.out.below.size) ?_);intro g9 E6 w9 fV ql u_;have fI:=aR.ac9 ql;have tc:(Value.slice oF xv.length oG).ownBlock.toList=T2:=(sT.out.2).symm;have jN:(⟨bo,0,none⟩:Addr).block∉(Value.slice oF xv.length oG).ownBlock.toList:=(by rw[tc];exact AA.out);have nR:(⟨g,v,none⟩:Addr).block∉(Value.slice oF xv.length oG).ownBlock.toList:=(by rw[tc];exact Ax.out);have pM:=fI.cell jN hW.1;have nP:=fI.cell nR hW.2;have If:=fI.fz nR hW.2 (bf kD.out.below EZ.out OI.out);refine HQ _ _ ⟨pM,nP⟩ ?_;have qT:=zh (m_ nd.out sT.out kD.out fV ql u_ Az.out Ay.out);clear fV ql u_ jN nR fI tc hW
 (try simp only[zA])
 simp only[bj];go_upto_region 3 with(fail);obtain⟨SC,dP,eO,qj⟩:=qT.out;obtain⟨w5,hw⟩:∃z,z=w9.setCell ⟨g,v,none⟩ (.slice (some ⟨g9,0,none⟩) (xv.length+1) E6):=⟨_,rfl⟩
 rw[<- hw]at dP qj ⊢;have K6:=zh dP;have OJ:=zh eO;have tS:=zh qj;clear hw dP eO qj qT pM nP If
 have Qy:Hid (au w5 base (.slice (some ⟨g,0,none⟩) n.ends.length c1) (.slice AI n.ids.length cI) (.slice AN n.ac1.length cN) (jp n v) SC):=by show au _ _ _ _ _ _ _;unfold jp qQ;rw[<- lq.out];exact K6.out
 have Xg:Hid (aZ w5 bo (.slice (some ⟨g,0,none⟩) n.ends.length c1) (.slice AI n.ids.length cI) (.slice AN n.ac1.length cN)):=by obtain⟨r,hr⟩:=CT.out;exact⟨r,(tS.out.block bo CU.out.2 qE.out).trans hr⟩
 have CV:Hid (Below base w2 w5):=tS.out.below base tb.out (fun j hj=>(tM.out.range j hj).1)
 have eK:bA w5 (w.heap.size+1) (.slice none 0 0) (.slice none 0 0) (.slice none 0 0):=(CV.out.block _ (by have h2:=rU.out;have h3:=tL.out;omega)).trans (uq.out w2 gn.out)
 obtain⟨d0,d1,d2,-,-,-⟩:=Xg.out.cells;obtain⟨e0,e1,e2,f0,f1,f2⟩:=eK.box.cells;clear eK;go_wp2;refine bodyPost_ret (v:=.agg #[.slice (some ⟨g,0,none⟩) n.ends.length c1,.slice AI n.ids.length cI,.slice AN n.ac1.length cN]) (by simp[results,Tryz.results127,go_sem, *]) rfl ?_;have Sp:=rU.out;have Nv:=tL.out;refine⟨_,_,_,_,rfl,(Qy.out.ac4 (fun j hj=>?_)).mono (show w.heap.size<=base by omega),?_⟩
 ·have tB:=(Qy.out.range j hj).1;rw[Below.heap_setCell _ _ _ j (by simp;omega),Below.heap_setCell _ _ _ j (by simp;omega),Below.heap_setCell _ _ _ j (by simp;omega)]
 ·have hk:Below w.heap.size w w5:=(Below.trans fE.out (gn.out.below.mono (by omega))).trans (CV.out.mono (by omega));exact((hk.setCell (by simp) _).setCell (by simp) _).setCell (by simp) _
theorem jC (ve vi vn:Value) (n:aw) (v u:Nat) (w:World) (h:aU w ve vi vn n) (hv:v<n.ends.length) (DG:u<n.ends.length) (hn:qP n):
  Calls Tryz.prog 149 #[.agg #[ve,vi,vn],.int .i64 v,.int .i64 u] w (qu w (dC n v u)):=by
 have Gl:=zh hn;clear hn
 obtain⟨w0,A,c,A2,c2,A3,c3,rfl,rfl,rfl,f_,hm,fq,fF,HA,cS,bQ,H,gP,ig,ii⟩:=zB h;clear h
 obtain⟨wa,iY⟩:∃wa,wa=w0.alloc (.cells #[.slice none 0 0,.slice none 0 0,.slice none 0 0] 30):=⟨_,rfl⟩
 have ju:aa w0 wa:=by rw[iY];exact ae _ (ad _)
 have ll:w0.heap.size=w.heap.size+1:=by rw[cS.out];simp
 have tL:Hid (wa.heap.size=w.heap.size+1+1):=by show _=_;rw[iY,<- ll];simp
 have uq:Hid (∀X,aa wa X->bA X (w.heap.size+1) (.slice none 0 0) (.slice none 0 0) (.slice none 0 0)):=fun X hX=>by
  refine bA.since (W:=wa) ?_ hX;rw[iY,<- ll];show(w0.heap.push _)[w0.heap.size]?=_
  rw[Array.getElem?_push_size]
 have Ge:=aj gP ju;have Gf:=aj ig ju;have EF:=aj ii ju;have Al:=zh iY;have mA:=zh ju;have fE:Hid (Below w.heap.size w wa):=Below.trans bQ.out (ju.below.mono bQ.out.size);clear iY ju ll gP ig ii
 go_enter Tryz.func149,Tryz.ntmps149
 go_upto_region 1 with(fail);rw[<- cS.out,<- Al.out];have hs:aa wa wa:=ad _;go_wp2_with fail;refine(kF _ _ _ n wa (H.out.ac2 mA.out.below) Gl.out.ends Gl.out.row Gl.out.sz).mono ?_;rintro e w1 ⟨we,wi,wn,S,rfl,ho,aX⟩;obtain⟨A1,c1,rfl,-,-,-⟩:=id ho.read.1;obtain⟨AI,cI,rfl,-,-,-⟩:=id ho.read.2.1;obtain⟨AN,cN,rfl,-,-,-⟩:=id ho.read.2.2;obtain⟨g,rfl,-⟩:=ho.head (by omega);obtain⟨base,iB⟩:∃base,base=wa.heap.size:=⟨_,rfl⟩
 rw[<- iB]at ho;have dw:aa wa w1:=hs.trans aX;obtain⟨w2,eH⟩:∃z,z=w1.alloc (.cells #[.slice (some ⟨g,0,none⟩) n.ends.length c1,.slice AI n.ids.length cI,.slice AN n.ac1.length cN] 30):=⟨_,rfl⟩
 obtain⟨bo,jx⟩:∃z,z=w1.heap.size:=⟨_,rfl⟩
 have ko:aa w1 w2:=by rw[eH];exact ae _ (ad _)
 have EG:aZ w2 bo (.slice (some ⟨g,0,none⟩) n.ends.length c1) (.slice AI n.ids.length cI) (.slice AN n.ac1.length cN):=by rw[eH,jx];exact aZ.new _ _ _ _ _
 have Iv:bo∉S:=fun hj=>by have:=(ho.range _ hj).2;omega
 have rU:=zh iB;have py:=zh eH;have rL:=zh jx;have tM:=zh (ho.ac2 ko.below);have CT:=zh EG;have qE:=zh Iv;have gn:=zh (dw.after ko)
 have CU:Hid (base<=bo/\bo<w2.heap.size):=⟨by rw[iB,jx];exact dw.below.size,by rw[eH,jx];simp⟩
 have qS:=bK hv;obtain⟨xv,gb⟩:∃x,x=be n v:=⟨_,rfl⟩
 rw[<- gb]at qS;have lq:=zh gb;have SA:=zh qS;have mw:Hid (xv.length<=1000):=Gl.out.row _ _ qS;clear iB eH jx ho EG Iv dw ko aX hs gb qS Ge Gf EF
 have Qz:=bK DG;obtain⟨xu,gb⟩:∃x,x=be n u:=⟨_,rfl⟩
 rw[<- gb]at Qz;have Hxu:=zh gb;have HXu:=zh Qz;have SD:Hid (xu.length<=1000):=Gl.out.row _ _ Qz;have xW:=mw.out;have zO:=SD.out
 have Qx:Hid (xv.length+1<=1000000):=by show _<=_;omega
 have tb:Hid (base<=w2.heap.size):=by show _<=_;have:=CU.out;omega
 have m1:IntKind.i64.wrap ((xu.length:Int)+1)=(xu.length:Int)+1:=aE _ (by omega) (by omega);clear xW zO gb Qz;obtain⟨uv,Tv,Cd,-,hRv,-,-,-⟩:=tM.out.ac_ SA.out;obtain⟨Av,cv,rfl,-,-,-⟩:=id hRv.read;obtain⟨uu,Tu,df,-,hRu,-,-,-⟩:=tM.out.ac_ HXu.out;obtain⟨Au,cu,rfl,-,-,-⟩:=id hRu.read;have dj:=CT.out.cells.1;clear hRv hRu
 by_cases Xh:v=u
 ·subst Xh;obtain rfl:xv=xu:=by rw[Hxu.out,lq.out]
  go_upto_region 2 with(fail);rw[<- py.out,<- rL.out];have htt:((v:Int)=(v:Int))=True:=by simp
  go_upto_region 6 with(fail);clear Cd df dj htt;obtain⟨u2,T2,zM,Bu,pY,na,rV,nJ,i9⟩:=tM.out.ade SA.out;obtain⟨oF,oG,rfl,-,-,-⟩:=id pY.read;have sT:=zh pY;have nd:=zh i9;have w_:g≠bo:=fun h=>qE.out (h ▸ nJ)
  have SB:=zh w_;have Ax:=zh rV;have Ay:=zh nJ;have Az:=zh na;have EZ:=zh zM;have OI:=zh Bu;have AA:Hid (bo∉T2):=fun h=>qE.out (na _ h)
  have np:=zh (aZ.cells CT.out);clear w_ rV nJ na zM Bu pY i9;refine av (fun W=>W.cell? ⟨bo,0,none⟩=some (.slice (some ⟨g,0,none⟩) n.ends.length c1)/\W.cell? ⟨g,v,none⟩=some (.slice oF xv.length oG)) 13 [false,false,false,false,false,false,false,false,false,false,false,true,true] (by kernel_rfl) (by kernel_rfl) (show(World.drew w2).cell? ⟨bo,0,none⟩=some (.slice (some ⟨g,0,none⟩) n.ends.length c1)/\(World.drew w2).cell? ⟨g,v,none⟩=some (.slice oF xv.length oG)from⟨np.out.1,EZ.out⟩) ?_
  simp only[ek,dD,zT]
  iterate 11 (apply bh rfl;(intro W hW;(obtain⟨k0,k1⟩:=hW);go_simp;with_reducible rfl);simp only[zA])
  obtain⟨W,cA⟩:∃W,W=World.drew w2:=⟨_,rfl⟩
  rw[<- cA];have hW:=(show(World.drew w2).cell? ⟨bo,0,none⟩=some (.slice (some ⟨g,0,none⟩) n.ends.length c1)/\(World.drew w2).cell? ⟨g,v,none⟩=some (.slice oF xv.length oG)from⟨np.out.1,EZ.out⟩);rw[<- cA]at hW;have eU:=zh cA;clear cA
  refine bC (v:=?_) (ob:=?_) rfl ?_ ?_ ?_;rotate_left 2
  (go_simp;first | with_reducible rfl | (refine⟨?_,?_⟩ <;> with_reducible rfl))
  exact⟨bc (ao _ _) hW.1,bc (ao _ _) hW.2⟩;intro w8 gJ iX
  replace hW:=iX
  clear iX
  have zr:Hid (w8=(World.drew w2).alloc (.cells #[.int .i64 (v:Int),.int .i64 ((xv.length:Int)+1)] 104)):=by show _=_;rw[gJ,eU.out]
  have kD:Hid (aa w2 w8):=by show aa _ _;rw[zr.out];exact ae _ (ag (ad _))
  have uy:Hid (eq w8 base (.slice oF xv.length oG) xv T2):=fY.ac2 sT.out kD.out.below
  have vd:Hid (w8.cell? ⟨w2.heap.size,0,none⟩=some (.int .i64 (v:Int))/\w8.cell? ⟨w2.heap.size,1,none⟩=some (.int .i64 ((xv.length:Int)+1))):=by show _/\_;rw[zr.out];exact ld (World.drew w2) _ _ _
  rw[show W.heap.size=w2.heap.size from by rw[eU.out];rfl]
  clear gJ eU
  (try simp only[zA])
  refine c_ (fun Q' HQ=>?_)
  (refine jV (base:=base) (v:=.slice oF xv.length oG) (xs:=xv) rfl _ _ rfl rfl uy.out w2.heap.size ((v:Int),((xv.length:Int)+1)) rfl vd.out.1 vd.out.2 Qx.out (Nat.le_trans tb.out kD.out.below.size) ?_);intro g9 E6 w9 fV ql u_;have fI:=aR.ac9 ql;have tc:(Value.slice oF xv.length oG).ownBlock.toList=T2:=(sT.out.2).symm;have jN:(⟨bo,0,none⟩:Addr).block∉(Value.slice oF xv.length oG).ownBlock.toList:=(by rw[tc];exact AA.out);have nR:(⟨g,v,none⟩:Addr).block∉(Value.slice oF xv.length oG).ownBlock.toList:=(by rw[tc];exact Ax.out);have pM:=fI.cell jN hW.1;have nP:=fI.cell nR hW.2;have If:=fI.fz nR hW.2 (bf kD.out.below EZ.out OI.out);refine HQ _ _ ⟨pM,nP⟩ ?_;have qT:=zh (m_ nd.out sT.out kD.out fV ql u_ Az.out Ay.out);clear fV ql u_ jN nR fI tc hW
  (try simp only[zA])
  simp only[bj];go_upto_region 7 with(fail);obtain⟨SC,dP,eO,qj⟩:=qT.out;obtain⟨w5,hw⟩:∃z,z=w9.setCell ⟨g,v,none⟩ (.slice (some ⟨g9,0,none⟩) (xv.length+1) E6):=⟨_,rfl⟩
  rw[<- hw]at dP qj ⊢;have K6:=zh dP;have OJ:=zh eO;have tS:=zh qj;clear hw dP eO qj qT pM nP If
  have K7:Hid (aZ w5 bo (.slice (some ⟨g,0,none⟩) n.ends.length c1) (.slice AI n.ids.length cI) (.slice AN n.ac1.length cN)):=by obtain⟨r,hr⟩:=CT.out;exact⟨r,(tS.out.block bo CU.out.2 qE.out).trans hr⟩
  have KO:Hid (bo∉SC):=fun hj=>by
   have h2:=CU.out;rcases OJ.out _ hj with h1 | h1
   ·exact qE.out h1
   ·omega
  obtain⟨xw,OK⟩:∃z,z=xv++[((v:Int),(xv.length:Int)+1)]:=⟨_,rfl⟩
  have Xi:Hid ((n.ends.set v (xv++[((v:Int),((xv.length:Int)+1))]))[v]?=some xw):=by show _=_;rw[OK];rw[List.getElem?_set_self (by omega)]
  have HL5:Hid (xw.length+1<=1000000):=by show _<=_;have h1:=mw.out;have h2:=SD.out;rw[OK];simp;omega
  have xc:Hid (Below base w2 w5):=tS.out.below base tb.out (fun j hj=>(tM.out.range j hj).1)
  have K8:Hid (base<=w5.heap.size):=Nat.le_trans tb.out xc.out.size;have Hxw:=zh OK;clear OK;have Cj:=K6;obtain⟨u5,T5,Qv,Xj,SE,E7,K9,E9,xd⟩:=Cj.out.ade Xi.out;obtain⟨CW,CX,rfl,-,-,-⟩:=id SE.read;have SF:=zh SE;have E_:=zh xd;have K_:g≠bo:=fun h=>KO.out (h ▸ E9)
  have aaR:=zh K_;have SG:=zh K9;have SH:=zh E9;have SI:=zh E7;have SJ:=zh Qv;have Hf5:=zh Xj;have SK:Hid (bo∉T5):=fun h=>KO.out (E7 _ h)
  have Qi:=zh (aZ.cells K7.out);clear K_ K9 E9 E7 Qv Xj SE xd;refine av (fun W=>W.cell? ⟨bo,0,none⟩=some (.slice (some ⟨g,0,none⟩) n.ends.length c1)/\W.cell? ⟨g,v,none⟩=some (.slice CW xw.length CX)) 13 [false,false,false,false,false,false,false,false,false,false,false,true,true] (by kernel_rfl) (by kernel_rfl) (show(World.drew w5).cell? ⟨bo,0,none⟩=some (.slice (some ⟨g,0,none⟩) n.ends.length c1)/\(World.drew w5).cell? ⟨g,v,none⟩=some (.slice CW xw.length CX)from⟨Qi.out.1,SJ.out⟩) ?_
  simp only[ek,dD,zT]
  iterate 11 (apply bh rfl;(intro W hW;(obtain⟨k0,k1⟩:=hW);go_simp;with_reducible rfl);simp only[zA])
  obtain⟨W,cA⟩:∃W,W=World.drew w5:=⟨_,rfl⟩
  rw[<- cA];have hW:=(show(World.drew w5).cell? ⟨bo,0,none⟩=some (.slice (some ⟨g,0,none⟩) n.ends.length c1)/\(World.drew w5).cell? ⟨g,v,none⟩=some (.slice CW xw.length CX)from⟨Qi.out.1,SJ.out⟩);rw[<- cA]at hW;have eU:=zh cA;clear cA
  refine bC (v:=?_) (ob:=?_) rfl ?_ ?_ ?_;rotate_left 2
  (go_simp;first | with_reducible rfl | (refine⟨?_,?_⟩ <;> with_reducible rfl))
  exact⟨bc (ao _ _) hW.1,bc (ao _ _) hW.2⟩;intro w8 gJ iX
  replace hW:=iX
  clear iX
  have zr:Hid (w8=(World.drew w5).alloc (.cells #[.int .i64 (v:Int),.int .i64 (xv.length:Int)] 104)):=by show _=_;rw[gJ,eU.out]
  have kD:Hid (aa w5 w8):=by show aa _ _;rw[zr.out];exact ae _ (ag (ad _))
  have uy:Hid (eq w8 base (.slice CW xw.length CX) xw T5):=fY.ac2 SF.out kD.out.below
  have vd:Hid (w8.cell? ⟨w5.heap.size,0,none⟩=some (.int .i64 (v:Int))/\w8.cell? ⟨w5.heap.size,1,none⟩=some (.int .i64 (xv.length:Int))):=by show _/\_;rw[zr.out];exact ld (World.drew w5) _ _ _
  rw[show W.heap.size=w5.heap.size from by rw[eU.out];rfl]
  clear gJ eU
  (try simp only[zA])
  refine c_ (fun Q' HQ=>?_)
  (refine jV (base:=base) (v:=.slice CW xw.length CX) (xs:=xw) rfl _ _ rfl rfl uy.out w5.heap.size ((v:Int),(xv.length:Int)) rfl vd.out.1 vd.out.2 HL5.out (Nat.le_trans K8.out kD.out.below.size) ?_);intro g9 E6 w9 fV ql u_;have fI:=aR.ac9 ql;have tc:(Value.slice CW xw.length CX).ownBlock.toList=T5:=(SF.out.2).symm;have jN:(⟨bo,0,none⟩:Addr).block∉(Value.slice CW xw.length CX).ownBlock.toList:=(by rw[tc];exact SK.out);have nR:(⟨g,v,none⟩:Addr).block∉(Value.slice CW xw.length CX).ownBlock.toList:=(by rw[tc];exact SG.out);have pM:=fI.cell jN hW.1;have nP:=fI.cell nR hW.2;have If:=fI.fz nR hW.2 (bf kD.out.below SJ.out Hf5.out);refine HQ _ _ ⟨pM,nP⟩ ?_;have qT:=zh (m_ E_.out SF.out kD.out fV ql u_ SI.out SH.out);clear fV ql u_ jN nR fI tc hW
  (try simp only[zA])
  simp only[bj];go_upto_region 8 with(fail);obtain⟨Sw7,dP,eO,qj⟩:=qT.out;obtain⟨w7,hw⟩:∃z,z=w9.setCell ⟨g,v,none⟩ (.slice (some ⟨g9,0,none⟩) (xw.length+1) E6):=⟨_,rfl⟩
  rw[<- hw]at dP qj ⊢;have SM:=zh dP;have aaS:=zh eO;have CY:=zh qj;clear hw dP eO qj qT pM nP If
  have Qy:Hid (au w7 base (.slice (some ⟨g,0,none⟩) n.ends.length c1) (.slice AI n.ids.length cI) (.slice AN n.ac1.length cN) (dC n v v) Sw7):=by
   have h1:=SM.out
   have e:({ ends:=(n.ends.set v (xv++[((v:Int),((xv.length:Int)+1))])).set v (xw++[((v:Int),(xv.length:Int))]),ids:=n.ids,ac1:=n.ac1 }:aw)=dC n v v:=by
    have h2:=Xi.out
    have h3:be ({ ends:=n.ends.set v (xv++[((v:Int),((xv.length:Int)+1))]),ids:=n.ids,ac1:=n.ac1 }:aw) v=xw:=by unfold be;rw[zDd];show((n.ends.set v _)[v]?).getD []=xw;rw[h2];rfl
    unfold dC;rw[if_pos rfl,<- lq.out];unfold qQ;rw[<- lq.out,h3]
   rw[<- e];exact h1
  have Xg:Hid (aZ w7 bo (.slice (some ⟨g,0,none⟩) n.ends.length c1) (.slice AI n.ids.length cI) (.slice AN n.ac1.length cN)):=by obtain⟨r,hr⟩:=K7.out;exact⟨r,(CY.out.block bo (by have:=CU.out;have:=xc.out.size;omega) KO.out).trans hr⟩
  have CV:Hid (Below base w2 w7):=xc.out.trans (CY.out.below base K8.out (fun j hj=>(Cj.out.range j hj).1))
  have eK:bA w7 (w.heap.size+1) (.slice none 0 0) (.slice none 0 0) (.slice none 0 0):=(CV.out.block _ (by have h2:=rU.out;have h3:=tL.out;omega)).trans (uq.out w2 gn.out)
  obtain⟨d0,d1,d2,-,-,-⟩:=Xg.out.cells;obtain⟨e0,e1,e2,f0,f1,f2⟩:=eK.box.cells;clear eK;go_wp2;refine bodyPost_ret (v:=.agg #[.slice (some ⟨g,0,none⟩) n.ends.length c1,.slice AI n.ids.length cI,.slice AN n.ac1.length cN]) (by simp[results,Tryz.results149,go_sem, *]) rfl ?_;have Sp:=rU.out;have Nv:=tL.out;refine⟨_,_,_,_,rfl,(Qy.out.ac4 (fun j hj=>?_)).mono (show w.heap.size<=base by omega),?_⟩
  ·have tB:=(Qy.out.range j hj).1;rw[Below.heap_setCell _ _ _ j (by simp;omega),Below.heap_setCell _ _ _ j (by simp;omega),Below.heap_setCell _ _ _ j (by simp;omega)]
  ·have hk:Below w.heap.size w w7:=(Below.trans fE.out (gn.out.below.mono (by omega))).trans (CV.out.mono (by omega));exact((hk.setCell (by simp) _).setCell (by simp) _).setCell (by simp) _
 ·have yJ:((v:Int)=(u:Int))=False:=by simp;omega
  go_upto_region 2 with(fail);rw[<- py.out,<- rL.out];go_upto_region 6 with(fail);clear Cd df dj yJ;obtain⟨u2,T2,zM,Bu,pY,na,rV,nJ,i9⟩:=tM.out.ade SA.out;obtain⟨oF,oG,rfl,-,-,-⟩:=id pY.read;have sT:=zh pY;have nd:=zh i9;have w_:g≠bo:=fun h=>qE.out (h ▸ nJ)
  have SB:=zh w_;have Ax:=zh rV;have Ay:=zh nJ;have Az:=zh na;have EZ:=zh zM;have OI:=zh Bu;have AA:Hid (bo∉T2):=fun h=>qE.out (na _ h)
  have np:=zh (aZ.cells CT.out);clear w_ rV nJ na zM Bu pY i9;refine av (fun W=>W.cell? ⟨bo,0,none⟩=some (.slice (some ⟨g,0,none⟩) n.ends.length c1)/\W.cell? ⟨g,v,none⟩=some (.slice oF xv.length oG)) 13 [false,false,false,false,false,false,false,false,false,false,false,true,true] (by kernel_rfl) (by kernel_rfl) (show(World.drew w2).cell? ⟨bo,0,none⟩=some (.slice (some ⟨g,0,none⟩) n.ends.length c1)/\(World.drew w2).cell? ⟨g,v,none⟩=some (.slice oF xv.length oG)from⟨np.out.1,EZ.out⟩) ?_
  simp only[ek,dD,zT]
  iterate 11 (apply bh rfl;(intro W hW;(obtain⟨k0,k1⟩:=hW);go_simp;with_reducible rfl);simp only[zA])
  obtain⟨W,cA⟩:∃W,W=World.drew w2:=⟨_,rfl⟩
  rw[<- cA];have hW:=(show(World.drew w2).cell? ⟨bo,0,none⟩=some (.slice (some ⟨g,0,none⟩) n.ends.length c1)/\(World.drew w2).cell? ⟨g,v,none⟩=some (.slice oF xv.length oG)from⟨np.out.1,EZ.out⟩);rw[<- cA]at hW;have eU:=zh cA;clear cA
  refine bC (v:=?_) (ob:=?_) rfl ?_ ?_ ?_;rotate_left 2
  (go_simp;first | with_reducible rfl | (refine⟨?_,?_⟩ <;> with_reducible rfl))
  exact⟨bc (ao _ _) hW.1,bc (ao _ _) hW.2⟩;intro w8 gJ iX
  replace hW:=iX
  clear iX
  have zr:Hid (w8=(World.drew w2).alloc (.cells #[.int .i64 (u:Int),.int .i64 (xu.length:Int)] 104)):=by show _=_;rw[gJ,eU.out]
  have kD:Hid (aa w2 w8):=by show aa _ _;rw[zr.out];exact ae _ (ag (ad _))
  have uy:Hid (eq w8 base (.slice oF xv.length oG) xv T2):=fY.ac2 sT.out kD.out.below
  have vd:Hid (w8.cell? ⟨w2.heap.size,0,none⟩=some (.int .i64 (u:Int))/\w8.cell? ⟨w2.heap.size,1,none⟩=some (.int .i64 (xu.length:Int))):=by show _/\_;rw[zr.out];exact ld (World.drew w2) _ _ _
  rw[show W.heap.size=w2.heap.size from by rw[eU.out];rfl]
  clear gJ eU
  (try simp only[zA])
  refine c_ (fun Q' HQ=>?_)
  (refine jV (base:=base) (v:=.slice oF xv.length oG) (xs:=xv) rfl _ _ rfl rfl uy.out w2.heap.size ((u:Int),(xu.length:Int)) rfl vd.out.1 vd.out.2 Qx.out (Nat.le_trans tb.out kD.out.below.size) ?_);intro g9 E6 w9 fV ql u_;have fI:=aR.ac9 ql;have tc:(Value.slice oF xv.length oG).ownBlock.toList=T2:=(sT.out.2).symm;have jN:(⟨bo,0,none⟩:Addr).block∉(Value.slice oF xv.length oG).ownBlock.toList:=(by rw[tc];exact AA.out);have nR:(⟨g,v,none⟩:Addr).block∉(Value.slice oF xv.length oG).ownBlock.toList:=(by rw[tc];exact Ax.out);have pM:=fI.cell jN hW.1;have nP:=fI.cell nR hW.2;have If:=fI.fz nR hW.2 (bf kD.out.below EZ.out OI.out);refine HQ _ _ ⟨pM,nP⟩ ?_;have qT:=zh (m_ nd.out sT.out kD.out fV ql u_ Az.out Ay.out);clear fV ql u_ jN nR fI tc hW
  (try simp only[zA])
  simp only[bj];go_upto_region 7 with(fail);obtain⟨SC,dP,eO,qj⟩:=qT.out;obtain⟨w5,hw⟩:∃z,z=w9.setCell ⟨g,v,none⟩ (.slice (some ⟨g9,0,none⟩) (xv.length+1) E6):=⟨_,rfl⟩
  rw[<- hw]at dP qj ⊢;have K6:=zh dP;have OJ:=zh eO;have tS:=zh qj;clear hw dP eO qj qT pM nP If
  have K7:Hid (aZ w5 bo (.slice (some ⟨g,0,none⟩) n.ends.length c1) (.slice AI n.ids.length cI) (.slice AN n.ac1.length cN)):=by obtain⟨r,hr⟩:=CT.out;exact⟨r,(tS.out.block bo CU.out.2 qE.out).trans hr⟩
  have KO:Hid (bo∉SC):=fun hj=>by
   have h2:=CU.out;rcases OJ.out _ hj with h1 | h1
   ·exact qE.out h1
   ·omega
  obtain⟨xw,OK⟩:∃z,z=xu:=⟨_,rfl⟩
  have Xi:Hid ((n.ends.set v (xv++[((u:Int),(xu.length:Int))]))[u]?=some xw):=by show _=_;rw[OK];rw[List.getElem?_set_ne Xh];exact HXu.out
  have HL5:Hid (xw.length+1<=1000000):=by show _<=_;have h1:=mw.out;have h2:=SD.out;rw[OK];omega
  have xc:Hid (Below base w2 w5):=tS.out.below base tb.out (fun j hj=>(tM.out.range j hj).1)
  have K8:Hid (base<=w5.heap.size):=Nat.le_trans tb.out xc.out.size;have Hxw:=zh OK;clear OK;have Cj:=K6;obtain⟨u5,T5,Qv,Xj,SE,E7,K9,E9,xd⟩:=Cj.out.ade Xi.out;obtain⟨CW,CX,rfl,-,-,-⟩:=id SE.read;have SF:=zh SE;have E_:=zh xd;have K_:g≠bo:=fun h=>KO.out (h ▸ E9)
  have aaR:=zh K_;have SG:=zh K9;have SH:=zh E9;have SI:=zh E7;have SJ:=zh Qv;have Hf5:=zh Xj;have SK:Hid (bo∉T5):=fun h=>KO.out (E7 _ h)
  have Qi:=zh (aZ.cells K7.out);clear K_ K9 E9 E7 Qv Xj SE xd;refine av (fun W=>W.cell? ⟨bo,0,none⟩=some (.slice (some ⟨g,0,none⟩) n.ends.length c1)/\W.cell? ⟨g,u,none⟩=some (.slice CW xw.length CX)) 13 [false,false,false,false,false,false,false,false,false,false,false,true,true] (by kernel_rfl) (by kernel_rfl) (show(World.drew w5).cell? ⟨bo,0,none⟩=some (.slice (some ⟨g,0,none⟩) n.ends.length c1)/\(World.drew w5).cell? ⟨g,u,none⟩=some (.slice CW xw.length CX)from⟨Qi.out.1,SJ.out⟩) ?_
  simp only[ek,dD,zT]
  iterate 11 (apply bh rfl;(intro W hW;(obtain⟨k0,k1⟩:=hW);go_simp;with_reducible rfl);simp only[zA])
  obtain⟨W,cA⟩:∃W,W=World.drew w5:=⟨_,rfl⟩
  rw[<- cA];have hW:=(show(World.drew w5).cell? ⟨bo,0,none⟩=some (.slice (some ⟨g,0,none⟩) n.ends.length c1)/\(World.drew w5).cell? ⟨g,u,none⟩=some (.slice CW xw.length CX)from⟨Qi.out.1,SJ.out⟩);rw[<- cA]at hW;have eU:=zh cA;clear cA
  refine bC (v:=?_) (ob:=?_) rfl ?_ ?_ ?_;rotate_left 2
  (go_simp;first | with_reducible rfl | (refine⟨?_,?_⟩ <;> with_reducible rfl))
  exact⟨bc (ao _ _) hW.1,bc (ao _ _) hW.2⟩;intro w8 gJ iX
  replace hW:=iX
  clear iX
  have zr:Hid (w8=(World.drew w5).alloc (.cells #[.int .i64 (v:Int),.int .i64 (xv.length:Int)] 104)):=by show _=_;rw[gJ,eU.out]
  have kD:Hid (aa w5 w8):=by show aa _ _;rw[zr.out];exact ae _ (ag (ad _))
  have uy:Hid (eq w8 base (.slice CW xw.length CX) xw T5):=fY.ac2 SF.out kD.out.below
  have vd:Hid (w8.cell? ⟨w5.heap.size,0,none⟩=some (.int .i64 (v:Int))/\w8.cell? ⟨w5.heap.size,1,none⟩=some (.int .i64 (xv.length:Int))):=by show _/\_;rw[zr.out];exact ld (World.drew w5) _ _ _
  rw[show W.heap.size=w5.heap.size from by rw[eU.out];rfl]
  clear gJ eU
  (try simp only[zA])
  refine c_ (fun Q' HQ=>?_)
  (refine jV (base:=base) (v:=.slice CW xw.length CX) (xs:=xw) rfl _ _ rfl rfl uy.out w5.heap.size ((v:Int),(xv.length:Int)) rfl vd.out.1 vd.out.2 HL5.out (Nat.le_trans K8.out kD.out.below.size) ?_);intro g9 E6 w9 fV ql u_;have fI:=aR.ac9 ql;have tc:(Value.slice CW xw.length CX).ownBlock.toList=T5:=(SF.out.2).symm;have jN:(⟨bo,0,none⟩:Addr).block∉(Value.slice CW xw.length CX).ownBlock.toList:=(by rw[tc];exact SK.out);have nR:(⟨g,u,none⟩:Addr).block∉(Value.slice CW xw.length CX).ownBlock.toList:=(by rw[tc];exact SG.out);have pM:=fI.cell jN hW.1;have nP:=fI.cell nR hW.2;have If:=fI.fz nR hW.2 (bf kD.out.below SJ.out Hf5.out);refine HQ _ _ ⟨pM,nP⟩ ?_;have qT:=zh (m_ E_.out SF.out kD.out fV ql u_ SI.out SH.out);clear fV ql u_ jN nR fI tc hW
  (try simp only[zA])
  simp only[bj];go_upto_region 8 with(fail);obtain⟨Sw7,dP,eO,qj⟩:=qT.out;obtain⟨w7,hw⟩:∃z,z=w9.setCell ⟨g,u,none⟩ (.slice (some ⟨g9,0,none⟩) (xw.length+1) E6):=⟨_,rfl⟩
  rw[<- hw]at dP qj ⊢;have SM:=zh dP;have aaS:=zh eO;have CY:=zh qj;clear hw dP eO qj qT pM nP If
  have Qy:Hid (au w7 base (.slice (some ⟨g,0,none⟩) n.ends.length c1) (.slice AI n.ids.length cI) (.slice AN n.ac1.length cN) (dC n v u) Sw7):=by
   have h1:=SM.out
   have e:({ ends:=(n.ends.set v (xv++[((u:Int),(xu.length:Int))])).set u (xw++[((v:Int),(xv.length:Int))]),ids:=n.ids,ac1:=n.ac1 }:aw)=dC n v u:=by
    have h2:=Xi.out
    have h3:be ({ ends:=n.ends.set v (xv++[((u:Int),(xu.length:Int))]),ids:=n.ids,ac1:=n.ac1 }:aw) u=xw:=by unfold be;rw[zDd];show((n.ends.set v _)[u]?).getD []=xw;rw[h2];rfl
    unfold dC;rw[if_neg Xh,<- lq.out,<- Hxu.out];unfold qQ;rw[<- lq.out,h3]
   rw[<- e];exact h1
  have Xg:Hid (aZ w7 bo (.slice (some ⟨g,0,none⟩) n.ends.length c1) (.slice AI n.ids.length cI) (.slice AN n.ac1.length cN)):=by obtain⟨r,hr⟩:=K7.out;exact⟨r,(CY.out.block bo (by have:=CU.out;have:=xc.out.size;omega) KO.out).trans hr⟩
  have CV:Hid (Below base w2 w7):=xc.out.trans (CY.out.below base K8.out (fun j hj=>(Cj.out.range j hj).1))
  have eK:bA w7 (w.heap.size+1) (.slice none 0 0) (.slice none 0 0) (.slice none 0 0):=(CV.out.block _ (by have h2:=rU.out;have h3:=tL.out;omega)).trans (uq.out w2 gn.out)
  obtain⟨d0,d1,d2,-,-,-⟩:=Xg.out.cells;obtain⟨e0,e1,e2,f0,f1,f2⟩:=eK.box.cells;clear eK;go_wp2;refine bodyPost_ret (v:=.agg #[.slice (some ⟨g,0,none⟩) n.ends.length c1,.slice AI n.ids.length cI,.slice AN n.ac1.length cN]) (by simp[results,Tryz.results149,go_sem, *]) rfl ?_;have Sp:=rU.out;have Nv:=tL.out;refine⟨_,_,_,_,rfl,(Qy.out.ac4 (fun j hj=>?_)).mono (show w.heap.size<=base by omega),?_⟩
  ·have tB:=(Qy.out.range j hj).1;rw[Below.heap_setCell _ _ _ j (by simp;omega),Below.heap_setCell _ _ _ j (by simp;omega),Below.heap_setCell _ _ _ j (by simp;omega)]
  ·have hk:Below w.heap.size w w7:=(Below.trans fE.out (gn.out.below.mono (by omega))).trans (CV.out.mono (by omega));exact((hk.setCell (by simp) _).setCell (by simp) _).setCell (by simp) _
def CZ (n:aw) (e:Int×Int):Prop:=∃(a b:Nat) (fs:List (Int×Int)),e=((a:Int),(b:Int))/\n.ends[a]?=some fs/\b<fs.length
def Nw (n:aw):Prop:=∀(k:Nat) (es:List (Int×Int)),n.ends[k]?=some es->∀e∈es,CZ n e
def oH (n N:aw):Prop:=∀(k:Nat) (es:List (Int×Int)),N.ends[k]?=some es->∀e∈es,CZ n e
structure jD (n N:aw):Prop where
 ids:N.ids=n.ids
 ac1:N.ac1=n.ac1
 len:N.ends.length=n.ends.length
 row:∀(k:Nat) (es:List (Int×Int)),n.ends[k]?=some es->∃fs,N.ends[k]?=some fs/\fs.length=es.length
theorem jD.refl (n:aw):jD n n:=⟨rfl,rfl,rfl,fun _ es h=>⟨es,h,rfl⟩⟩
theorem CZ.sh {n N:aw} (h:jD n N) {e:Int×Int} (he:CZ n e):CZ N e:=by
 obtain⟨a,b,fs,h1,h2,h3⟩:=he;obtain⟨gs,h4,h5⟩:=h.row a fs h2;exact⟨a,b,gs,h1,h4,by omega⟩
theorem oH.wf {n N:aw} (h:jD n N) (ha:oH n N):Nw N:=fun k es he e hm=>(ha k es he e hm).sh h
theorem jD.put {n N:aw} (h:jD n N) {k j:Nat} {es:List (Int×Int)} (hx:N.ends[k]?=some es) (y:Int×Int):jD n { N with ends:=N.ends.set k (es.set j y) }:=⟨h.ids,h.ac1,by show(N.ends.set k _).length=_;rw[List.length_set];exact h.len,fun q fs hq=>by
 obtain⟨gs,h1,h2⟩:=h.row q fs hq
 by_cases e:q=k
 ·subst e;refine⟨es.set j y,?_,?_⟩
  ·show(N.ends.set q _)[q]?=_
   rw[List.getElem?_set_self (al hx)]
  ·rw[hx]at h1;cases h1;rw[List.length_set];exact h2
 ·exact⟨gs,by show(N.ends.set k _)[q]?=_;rw[List.getElem?_set_ne (Ne.symm e)];exact h1,h2⟩⟩
theorem oH.put {n N:aw} (h:oH n N) {k j:Nat} {es:List (Int×Int)} (hx:N.ends[k]?=some es) {y:Int×Int} (hy:CZ n y):oH n { N with ends:=N.ends.set k (es.set j y) }:=fun q fs hq e he=>by
 by_cases Xk:q=k
 ·subst Xk;have Xl:(N.ends.set q (es.set j y))[q]?=some fs:=hq;rw[List.getElem?_set_self (al hx)]at Xl;cases Xl;rcases List.mem_or_eq_of_mem_set he with h1 | h1
  ·exact h q es hx e h1
  ·rw[h1];exact hy
 ·have Xl:(N.ends.set k (es.set j y))[q]?=some fs:=hq;rw[List.getElem?_set_ne (Ne.symm Xk)]at Xl;exact h q fs Xl e he
structure Cp (wa W:World) (ob g c m:Nat) (vi vn:Value) (N:aw) (S:List Nat):Prop where
 own:au W wa.heap.size (.slice (some ⟨g,0,none⟩) m c) vi vn N S
 box:aZ W ob (.slice (some ⟨g,0,none⟩) m c) vi vn
 nb:ob∉S
 since:aa wa W
theorem Cp.ac2 {wa W W':World} {ob g c m:Nat} {vi vn:Value} {N:aw} {S:List Nat} (h:Cp wa W ob g c m vi vn N S) (hs:aa W W'):Cp wa W' ob g c m vi vn N S:=
 ⟨h.own.ac2 hs.below,h.box.below hs h.box.lt,h.nb,h.since.after hs⟩
theorem Cp.put {wa W:World} {ob g c m:Nat} {vi vn:Value} {N:aw} {S:List Nat} (h:Cp wa W ob g c m vi vn N S) {p:Addr} (hp:wa.heap.size<=p.block) (hS:p.block∉S) (ho:p.block≠ob) (u:Value):Cp wa (W.setCell p u) ob g c m vi vn N S:=
 ⟨h.own.ac4 (fun k hk=>Below.heap_setCell _ _ _ _ (fun e=>hS (e ▸ hk))),h.box.set ho,h.nb,h.since.setCell hp _⟩
theorem Cp.port {wa W:World} {ob g c m:Nat} {vi vn:Value} {N:aw} {S:List Nat} (h:Cp wa W ob g c m vi vn N S) {k j:Nat} {es:List (Int×Int)} (hx:N.ends[k]?=some es) (hj:j<es.length):
  ∃gr cr:Nat,W.cell? ⟨g,k,none⟩=some (.slice (some ⟨gr,0,none⟩) es.length cr)/\es.length<=cr/\cr<=9223372036854775807/\gr∈S/\g≠gr/\gr≠ob/\W.frozen? ⟨gr,j*2,none⟩=false/\W.frozen? ⟨gr,j*2+1,none⟩=false/\(∃z,W.cell? ⟨gr,j*2,none⟩=some z)/\(∃z,W.cell? ⟨gr,j*2+1,none⟩=some z) /\
   ∀y:Int×Int,Cp wa ((W.setCell ⟨gr,j*2,none⟩ (.int .i64 y.1)).setCell ⟨gr,j*2+1,none⟩ (.int .i64 y.2)) ob g c m vi vn { N with ends:=N.ends.set k (es.set j y) } S:=by
 obtain⟨gr,cr,c1,c2,c3,c4,c5,c6,⟨c7,c8⟩,c9,c10,j8⟩:=h.own.ada hx hj;have Vb:wa.heap.size<=gr:=(h.own.range gr c5).1;have hn:gr≠ob:=fun e=>h.nb (e ▸ c5)
 unfold maxLen at c3;exact⟨gr,cr,c1,c2,by omega,c5,c6,hn,c7,c8,c9,c10,fun y=>⟨j8 y,(h.box.set hn).set hn,h.nb,(h.since.setCell Vb _).setCell Vb _⟩⟩
end Go.Proofs.YtnioemnkfojmkaaGreat
