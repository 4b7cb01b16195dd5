/- Parts of the proof: walks of functions and plain laws. -/
import Derived.Test.YtgmdpppljkmabaaGreatP0
import Derived.Test.YtgmdpppljkmabaaGreatP1
import Derived.Test.YtgmdpppljkmabaaGreatP9
import Derived.Test.YtgmdpppljkmabaaGreatP6
import Derived.Test.YtgmdpppljkmabaaGreatP3
import Derived.Test.YtgmdpppljkmabaaGreatP5
import Derived.Test.YtgmdpppljkmabaaGreatP7
import Derived.Laws.CopyOwn
import Derived.Shelf.Bits.Mul64
set_option maxRecDepth 100000
set_option maxHeartbeats 16000000
namespace Go.Proofs.YtgmdpppljkmabaaGreat
open Go Go.RowKit
theorem DI (v : Value) (xs : List Int) (x : Int) (w : World) (h : bD w v xs) :
  Calls Tryz.prog 201 #[v,.int .i64 x] w fun e w' => ∃ i : Int,e = .returned (.int .i64 i) ∧ decide (0 ≤ i) = jP xs x ∧ w = w':=by
 obtain ⟨A,c,rfl,ft,hm,hA⟩:=h;unfold maxLen at hm;have HA:=zh hA;clear hA
 go_enter Tryz.func201,Tryz.ntmps201
 go_wp2
 go_loop [8] (fun i => ∃ k : Nat,k ≤ xs.length ∧ i = .int .i64 k ∧ x ∉ xs.take k) (fun i => xs.length - (intOf i).toNat)
 case atStart => exact ⟨0,Nat.zero_le _,rfl,by simp⟩
 case round =>
  obtain ⟨k,hk,rfl,lN⟩:=hrel;have px:=zh lN;clear lN
  by_cases hlt : k < xs.length
  ·obtain ⟨y,hy⟩:=aW xs k hlt;obtain ⟨b,off,rfl,jx⟩:=HA.out k y hy;have Hy:=zh hy;clear hy;cases Ml : (x == y)
   ·have SV:=zh Ml;go_wp2
    go_round
    case rel =>
     refine ⟨k + 1,by omega,by go_num,?_⟩
     rw [bk Hy.out];simp only [List.mem_append,List.mem_singleton,not_or];exact ⟨px.out,by simpa using SV.out⟩
    case measure => simp [intOf];omega
   ·have SV:=zh Ml;go_wp2;go_ret;refine ⟨_,rfl,?_,rfl⟩;have e : x = y:=by simpa using SV.out
    rw [e];unfold jP;simp [List.mem_of_getElem? Hy.out]
  ·go_wp2;go_ret;refine ⟨_,rfl,?_,rfl⟩
   have:=px.out
   rw [iC xs hlt] at this;unfold jP;simpa using this
theorem jr (v : Value) (xs : List Int) (x : Int) (w : World) (h : bD w v xs) :
  Calls Tryz.prog 145 #[v,.int .i64 x] w fun e w' => e = .returned (.bool (jP xs x)) ∧ w = w':=by
 have H:=zh h;obtain ⟨A,c,rfl,ft,hm,hA⟩:=h;clear hA
 go_enter Tryz.func145,Tryz.ntmps145
 go_wp2_with fail;refine (DI _ xs x _ H.out).mono ?_;rintro e w1 ⟨i,rfl,hi,rfl⟩;have Hi:=zh hi;clear hi;go_wp2;go_ret;exact ⟨bP Hi.out,rfl⟩
def fU (n : am) (s : Int) (ls : List Int) (l gt jp : Int) (es : List (Int × Int)) : Bool:=
 if s = 1 then decide (l ≤ 1) && !((aw ls es).any fun x => x != 1 - l)
 else if s = 2 then decide (l ≤ 2) && !jP (aw ls es) l
 else if s = 3 then uG l (aw ls es)
 else if s = 4 then decide (n.ids.length ≠ 0) && iX gt jp ls l es
 else decide (n.ids.length ≠ 0) && jF gt ls l es
theorem Bx : ∀ args w,(callFunc 172 args).run Tryz.prog w = .ok (.enter 172 args) w:=enters_of Tryz.func172 (by kernel_rfl) rfl
theorem J7 (x l : Int) (b : Nat) (w : World) (h0 : 0 ≤ l) (h1 : l ≤ 999999999999) (hc : w.cell? ⟨b,0,none⟩ = some (.int .i64 l)) :
  Calls Tryz.prog 172 #[.int .i64 x,.pointer (some ⟨b,0,none⟩)] w fun e w' => e = .returned (.bool (x != 1 - l)) ∧ w = w':=by
 go_enter Tryz.func172,Tryz.ntmps172
 go_wp2;go_ret;exact ⟨rfl,rfl⟩
theorem G0 (l : Int) (b : Nat) (w : World) (xs : List Int) (h0 : 0 ≤ l) (h1 : l ≤ 999999999999) (hc : w.cell? ⟨b,0,none⟩ = some (.int .i64 l)) : mh w 172 #[.pointer (some ⟨b,0,none⟩)] (fun x => x != 1 - l) xs:=by
 intro x _ X hX;exact (J7 x l b X h0 h1 (bc hX hc)).mono fun _ _ ⟨he,hw⟩ => ⟨he,hw ▸ Below.refl _ _⟩
theorem r_ (ve vi vn vl : Value) (n : am) (s : Int) (ls : List Int) (k : Nat) (es : List (Int × Int)) (l gt jp : Int) (w : World) (h : aT w ve vi vn n) (hl : bD w vl ls) (dm : 1 ≤ s) (ro : s ≤ 5) (cM : n.ends[k]? = some es) (n9 : es.length ≤ 6) (dC : ∀ e ∈ es,0 ≤ e.1 ∧ e.1 < ls.length)
  (pF : ∀ x ∈ l :: aw ls es,0 ≤ x ∧ x ≤ 999999999999) (hk : ls[k]? = some l) (hid : n.ids.length ≠ 0 → n.ids[k]? = some gt) (nA : n.inputs[k]? = some jp) :
  Calls Tryz.prog 109 #[.agg #[ve,vi,vn],.int .i64 s,vl,.int .i64 k] w fun e w' => e = .returned (.bool (fU n s ls l gt jp es)) ∧ Below w.heap.size w w':=by
 obtain ⟨w0,A,c,A2,c2,A3,c3,rfl,rfl,rfl,ft,hm,f6,gF,HA,dh,bv,H,eG,eX,fb⟩:=zB h;clear h
 have HL:=zh (hl.keep bv.out)
 obtain ⟨_,bl,ol,cl,l',e0,rfl,lq,lu,-,hd⟩:=eV HL.out (x:=(k : Int)) (by omega) (by have:=aq hk;omega)
 obtain rfl : k = _:=by exact Int.ofNat.inj e0
 obtain rfl : l = l':=Option.some.inj (hk.symm.trans lu)
 obtain ⟨_,_,hv,sA,mn,_⟩:=id hl;cases hv;unfold maxLen at mn;obtain ⟨GX,I0⟩:=pF l (by simp);have t0:=ae hd;have ml:=zh cM;have p9:=zh dC;have GY:=zh pF;have Hk:=zh hk;have xc:=zh hid;have Nd:=zh nA;clear hd hk lu e0 hl cM dC pF hid nA
 go_enter Tryz.func109,Tryz.ntmps109
 go_upto_region 1 with (fail);rw [← dh.out];refine ud (w0:=w0) 7 9 14 18 10 l (aw ls es) (by kernel_rfl) (by kernel_rfl) rfl (ad _) rfl rfl ⟨_,_,_,rfl⟩ ⟨_,_,_,rfl⟩ ⟨_,_,_,rfl⟩ (by decide) (by simp) (by simp) ?_;simp only [List.take_succ_cons,List.take_zero]
 iterate 7 (apply bB rfl;(intro W hW;go_simp;with_reducible rfl);simp only [zA])
 refine ⟨rfl,⟨rfl,fun W hW => ?_⟩,?_⟩
 ·unfold ku
  go_simp
  refine (kA _ _ _ _ n ls k es W (H.out.keep hW.below) (HL.out.keep hW.below) ml.out (by omega) p9.out).mono ?_;rintro e W' ⟨u,rfl,ho,hb⟩;exact ⟨u,rfl,ho,hb⟩
 intro u b W hW ho hI;simp only [zA];have hlen : (aw ls es).length = es.length:=by simp [aw]
 have HU:=zh (show ∀ X,aa W X → bD X u (aw ls es) from fun X hX => ho.ints.keep hX.below)
 obtain ⟨Bu,du,hu,_⟩:=id ho.ints;rw [hlen] at hu;have q0:=ae hI.cells.1;have HW:=zh hW;have eZ:=zh hlen;rw [hu];rw [hu] at HU;have wH : aa W W:=ad _;have eG:=ai eG hW;have eX:=ai eX hW;have fb:=ai fb hW;unfold MM;clear ho hI hW hlen hu t0
 by_cases c1 : s = 1
 ·subst c1;have hr:=zh (show fU n 1 ls l gt jp es = (decide (l ≤ 1) && !((aw ls es).any fun x => x != 1 - l)) by simp [fU])
  go_upto_region 4 with (fail);clear wH;refine aB 8 (aa W) (ad _) ?_;simp only [zT]
  iterate 3 (apply ag rfl;(intro W hW;go_simp;with_reducible rfl);simp only [zA])
  iterate 2 (apply aj rfl rfl;(intro hb;intro W hW;go_simp;with_reducible rfl);simp only [zA])
  refine bC (v:=?_) rfl rfl ?_ ?_;rotate_left;(intro hb;intro W hW;unfold bG;go_simp;(with_reducible refine (lM _ (aw ls es) _ _ (fun x => x != 1 - l) W (HU.out W hW) Bx (G0 l b W (aw ls es) GX I0 (q0 W hW))).mono ?_);rintro e W' ⟨rfl,bg⟩;first | (refine ⟨?_,aa.trans hW bg⟩;with_reducible rfl) | (subst bg;refine ⟨?_,hW⟩;with_reducible rfl))
  simp only [zA]
  apply aj rfl rfl;(intro hb;intro W hW;go_simp;with_reducible rfl);simp only [zA]
  (first | refine bJ rfl rfl ?_ | (apply ag rfl;(intro W hW;go_simp;with_reducible rfl)));simp only [zA]
  intro W5 jd;have mx:=zh jd;clear jd;go_wp2;go_ret;exact ⟨bP hr.out.symm,aa.after bv.out (HW.out.after mx.out)⟩
 ·have jN : (s == 1) = false:=by simpa using c1
  by_cases c2 : s = 2
  ·subst c2;have hr:=zh (show fU n 2 ls l gt jp es = (decide (l ≤ 2) && !jP (aw ls es) l) by simp [fU])
   clear c1 jN;go_upto_region 6 with (fail);clear wH;refine aB 9 (aa W) (ad _) ?_;simp only [zT]
   iterate 3 (apply ag rfl;(intro W hW;go_simp;with_reducible rfl);simp only [zA])
   iterate 2 (apply aj rfl rfl;(intro hb;intro W hW;go_simp;with_reducible rfl);simp only [zA])
   refine bC (v:=?_) rfl rfl ?_ ?_;rotate_left;(intro hb;intro W hW;unfold bG;go_simp;(with_reducible refine (jr _ (aw ls es) _ W (HU.out W hW)).mono ?_);rintro e W' ⟨rfl,bg⟩;first | (refine ⟨?_,aa.trans hW bg⟩;with_reducible rfl) | (subst bg;refine ⟨?_,hW⟩;with_reducible rfl))
   simp only [zA]
   apply aj rfl rfl;(intro hb;intro W hW;go_simp;with_reducible rfl);simp only [zA]
   (first | refine bJ rfl rfl ?_ | (apply ag rfl;(intro W hW;go_simp;with_reducible rfl)));simp only [zA]
   apply ag rfl;(intro W hW;go_simp;with_reducible rfl);simp only [zA]
   intro W5 jd;have mx:=zh jd;clear jd;go_wp2;go_ret;exact ⟨bP hr.out.symm,aa.after bv.out (HW.out.after mx.out)⟩
  ·have oK : (s == 2) = false:=by simpa using c2
   by_cases c3 : s = 3
   ·subst c3;have hr:=zh (show fU n 3 ls l gt jp es = uG l (aw ls es) by simp [fU])
    clear c1 jN c2 oK;go_wp2_with fail
    refine (qI l _ (aw ls es) W GX I0 (HU.out W (ad _)) (by rw [eZ.out];omega)).mono ?_
    rintro e W5 ⟨rfl,jT⟩;have mx:=zh jT;clear jT;go_wp2;go_ret;exact ⟨bP hr.out.symm,aa.after bv.out (HW.out.after mx.out)⟩
   ·have pc : (s == 3) = false:=by simpa using c3
    by_cases c4 : s = 4
    ·subst c4;have hr:=zh (show fU n 4 ls l gt jp es = (decide (n.ids.length ≠ 0) && iX gt jp ls l es) by simp [fU])
     clear c1 jN c2 oK c3 pc;go_wp2_with fail;refine (qJ _ _ _ _ n ls k es l gt jp W (H.out.keep HW.out.below) (HL.out.keep HW.out.below) ml.out n9 p9.out GY.out Hk.out xc.out Nd.out).mono ?_;rintro e W5 ⟨rfl,jT⟩;have mx:=zh jT;clear jT;go_wp2;go_ret
     exact ⟨bP (by rw [hr.out];first | rfl | simp),aa.after bv.out (HW.out.after mx.out)⟩
    ·have c4' : (s == 4) = false:=by simpa using c4
     have hr:=zh (show fU n s ls l gt jp es = (decide (n.ids.length ≠ 0) && jF gt ls l es) by simp [fU,c1,c2,c3,c4])
     clear c1 c2 c3 c4;go_wp2_with fail;refine (sF _ _ _ _ n ls k es l gt W (H.out.keep HW.out.below) (HL.out.keep HW.out.below) ml.out n9 p9.out GY.out Hk.out xc.out).mono ?_;rintro e W5 ⟨rfl,jT⟩;have mx:=zh jT;clear jT;go_wp2;go_ret
     exact ⟨bP (by rw [hr.out];first | rfl | simp),aa.after bv.out (HW.out.after mx.out)⟩
theorem J8 (l : Int) (xs : List Int) : xs.all (ee (1 - l) (1 - l)) = !(xs.any fun x => x != 1 - l):=by
 rw [List.not_any_eq_all_not];congr 1
 funext x
 rw [Bool.eq_iff_iff,aM];simp
 omega
theorem J9 (ls : List Int) (es : List (Int × Int)) : ((es.map (·.1)).map fun x => ls.getD x.toNat 0) = aw ls es:=by simp [aw]
def qK (ls : List Int) (lo hi : Int) : Bool:=ls.all (ee lo hi)
theorem J_ (v : Value) (xs : List Int) (lo hi : Int) (w : World) (h : bD w v xs) :
  Calls Tryz.prog 133 #[v,.int .i64 lo,.int .i64 hi] w fun e w' => e = .returned (.bool (qK xs lo hi)) ∧ w = w':=ru v xs lo hi w h
theorem zd (v : Value) (xs : List Int) (lo hi : Int) (w : World) (h : bD w v xs) :
  Calls Tryz.prog 99 #[v,.int .i64 lo,.int .i64 hi] w fun e w' => e = .returned (.bool (qK xs lo hi)) ∧ Below w.heap.size w w':=ll v xs lo hi w h
theorem Ka (ve vi vn vl : Value) (n : am) (s : Int) (ls : List Int) (k : Nat) (es : List (Int × Int)) (l gt jp : Int) (w : World) (h : aT w ve vi vn n) (hl : bD w vl ls) (dm : 1 ≤ s) (ro : s ≤ 5) (cM : n.ends[k]? = some es) (n9 : es.length ≤ 6) (dC : ∀ e ∈ es,0 ≤ e.1 ∧ e.1 < ls.length)
  (pF : ∀ x ∈ l :: aw ls es,0 ≤ x ∧ x ≤ 999999999999) (hk : ls[k]? = some l) (hid : n.ids.length ≠ 0 → n.ids[k]? = some gt) (nA : n.inputs[k]? = some jp) :
  Calls Tryz.prog 126 #[.agg #[ve,vi,vn],.int .i64 s,vl,.int .i64 k] w fun e w' => e = .returned (.bool (fU n s ls l gt jp es)) ∧ Below w.heap.size w w':=by
 obtain ⟨w0,A,c,A2,c2,A3,c3,rfl,rfl,rfl,ft,hm,f6,gF,HA,dh,bv,H,eG,eX,fb⟩:=zB h;clear h
 have HL:=zh (hl.keep bv.out)
 obtain ⟨_,bl,ol,cl,l',e0,rfl,lq,lu,-,hd⟩:=eV HL.out (x:=(k : Int)) (by omega) (by have:=aq hk;omega)
 obtain rfl : k = _:=by exact Int.ofNat.inj e0
 obtain rfl : l = l':=Option.some.inj (hk.symm.trans lu)
 obtain ⟨_,_,hv,sA,mn,_⟩:=id hl;cases hv;unfold maxLen at mn;obtain ⟨GX,I0⟩:=pF l (by simp);have t0:=ae hd;have ml:=zh cM;have p9:=zh dC;have GY:=zh pF;have Hk:=zh hk;have xc:=zh hid;have Nd:=zh nA;have cX : aa w0 w0:=ad _;clear hd hk lu e0 hl cM dC pF hid nA
 go_enter Tryz.func126,Tryz.ntmps126
 go_upto_region 1 with (fail);rw [← dh.out];go_wp2_with fail;refine (kz _ _ _ n k es _ H.out ml.out (by omega)).mono ?_;rintro e W1 ⟨u1,rfl,iu,bj⟩;have wI:=zh iu.ints;have gh : Hid (aa w0 W1):=bj;clear iu bj cX;go_wp2_with fail
 refine (wZ _ _ ls (es.map (·.1)) _ (HL.out.keep gh.out.below) wI.out (by simp;omega) (fun x hx => by obtain ⟨e,he,rfl⟩:=List.mem_map.1 hx;exact p9.out e he)).mono ?_
 rw [J9];rintro e W ⟨u,rfl,ho,hb⟩;have hlen : (aw ls es).length = es.length:=by simp [aw]
 have HU:=zh (show ∀ X,aa W X → bD X u (aw ls es) from fun X hX => ho.ints.keep hX.below)
 have HW:=zh (gh.out.trans hb);have eZ:=zh hlen;have wH : aa W W:=ad _;have eG:=ai eG HW.out;have eX:=ai eX HW.out;have fb:=ai fb HW.out;have t0:=ai t0 HW.out;clear ho hb hlen
 by_cases c1 : s = 1
 ·subst c1;have hr:=zh (show fU n 1 ls l gt jp es = (decide (l ≤ 1) && qK (aw ls es) (1 - l) (1 - l)) by simp [fU,qK,J8])
  have m1 : IntKind.i64.wrap (1 - l) = 1 - l:=aL _ (by omega) (by omega);go_upto_region 4 with (fail);clear wH;refine ao 20 (aa W) (by kernel_rfl) (by kernel_rfl) (by simp) (ak (ad _)) ?_;simp only [zT]
  iterate 6 (apply ag rfl;(intro W hW;go_simp;with_reducible rfl);simp only [zA])
  iterate 11 (apply aj rfl rfl;(intro hb;intro W hW;go_simp;with_reducible rfl);simp only [zA])
  refine bC (v:=?_) rfl rfl ?_ ?_;rotate_left;(intro hb;intro W hW;unfold bG;go_simp;(with_reducible refine (J_ _ (aw ls es) _ _ W (HU.out W hW)).mono ?_);rintro e W' ⟨rfl,bg⟩;first | (refine ⟨?_,aa.trans hW bg⟩;with_reducible rfl) | (subst bg;refine ⟨?_,hW⟩;with_reducible rfl))
  simp only [zA]
  (first | refine bJ rfl rfl ?_ | (apply ag rfl;(intro W hW;go_simp;with_reducible rfl)));simp only [zA]
  apply ag rfl;(intro W hW;go_simp;with_reducible rfl);simp only [zA]
  intro W5 jd;have mx:=zh jd;clear jd m1;go_wp2;go_ret;exact ⟨bP hr.out.symm,aa.after bv.out (HW.out.after mx.out)⟩
 ·have jN : (s == 1) = false:=by simpa using c1
  by_cases c2 : s = 2
  ·subst c2;have hr:=zh (show fU n 2 ls l gt jp es = (decide (l ≤ 2) && !jP (aw ls es) l) by simp [fU])
   clear c1 jN;go_upto_region 6 with (fail);clear wH;refine aB 15 (aa W) (ad _) ?_;simp only [zT]
   iterate 6 (apply ag rfl;(intro W hW;go_simp;with_reducible rfl);simp only [zA])
   iterate 5 (apply aj rfl rfl;(intro hb;intro W hW;go_simp;with_reducible rfl);simp only [zA])
   refine bC (v:=?_) rfl rfl ?_ ?_;rotate_left;(intro hb;intro W hW;unfold bG;go_simp;(with_reducible refine (n_ _ (aw ls es) _ W (HU.out W hW)).mono ?_);rintro e W' ⟨rfl,bg⟩;first | (refine ⟨?_,aa.trans hW bg⟩;with_reducible rfl) | (subst bg;refine ⟨?_,hW⟩;with_reducible rfl))
   simp only [zA]
   apply aj rfl rfl;(intro hb;intro W hW;go_simp;with_reducible rfl);simp only [zA]
   (first | refine bJ rfl rfl ?_ | (apply ag rfl;(intro W hW;go_simp;with_reducible rfl)));simp only [zA]
   apply ag rfl;(intro W hW;go_simp;with_reducible rfl);simp only [zA]
   intro W5 jd;have mx:=zh jd;clear jd;go_wp2;go_ret;exact ⟨bP hr.out.symm,aa.after bv.out (HW.out.after mx.out)⟩
  ·have oK : (s == 2) = false:=by simpa using c2
   by_cases c3 : s = 3
   ·subst c3;have hr:=zh (show fU n 3 ls l gt jp es = DH l (aw ls es) by simp [fU,Qj GX])
    clear c1 jN c2 oK;go_wp2_with fail
    refine (zb l _ (aw ls es) W GX I0 (HU.out W (ad _)) (by rw [eZ.out];omega)).mono ?_
    rintro e W5 ⟨rfl,jT⟩;have mx:=zh jT;clear jT;go_wp2;go_ret;exact ⟨bP hr.out.symm,aa.after bv.out (HW.out.after mx.out)⟩
   ·have pc : (s == 3) = false:=by simpa using c3
    by_cases jE : n.ids.length = 0
    ·have hr:=zh (show fU n s ls l gt jp es = false by simp [fU,c1,c2,c3,jE])
     have Nb : ((n.ids.length : Int) == 0) = true:=by simp [jE]
     have Um : decide (0 < n.ids.length) = false:=by simp [jE]
     have Un : decide ((0 : Int) < (n.ids.length : Int)) = false:=by simp [jE]
     clear c1 c2 c3 jE;go_upto_region 9 with (fail);clear wH;refine aB 12 (aa W) (ad _) ?_;simp only [zT]
     iterate 5 (apply ag rfl;(intro W hW;go_simp;with_reducible rfl);simp only [zA])
     iterate 5 (refine km rfl rfl (by simp [*]) ?_;simp only [zA])
     (first | refine bJ rfl rfl ?_ | (apply ag rfl;(intro W hW;go_simp;with_reducible rfl)));simp only [zA]
     apply ag rfl;(intro W hW;go_simp;with_reducible rfl);simp only [zA]
     intro W5 jd;have mx:=zh jd;clear jd;go_wp2;go_ret
     exact ⟨bP (by rw [hr.out];try simp),aa.after bv.out (HW.out.after mx.out)⟩
    ·have w_:=xc.out jE
     have Un : decide ((0 : Int) < (n.ids.length : Int)) = true:=by simp;omega
     have abi : decide (0 < n.ids.length) = true:=by simp;omega
     by_cases c4 : s = 4
     ·subst c4;have hr:=zh (show fU n 4 ls l gt jp es = iX gt jp ls l es by simp [fU,jE])
      have Ql:=zh w_;have ZD : 0 < n.ids.length:=by omega
      clear c1 jN c2 oK c3 pc jE w_;go_wp2_with fail;refine (xd _ _ _ _ n ls k es l gt jp W (H.out.keep HW.out.below) (HL.out.keep HW.out.below) ml.out n9 p9.out GY.out Hk.out Ql.out Nd.out).mono ?_;rintro e W5 ⟨rfl,jT⟩;have mx:=zh jT;clear jT;go_wp2;go_ret;exact ⟨bP hr.out.symm,aa.after bv.out (HW.out.after mx.out)⟩
     ·obtain rfl : s = 5:=by omega
      have hr:=zh (show fU n 5 ls l gt jp es = jF gt ls l es by simp [fU,jE])
      have Ql:=zh w_;have ZD : 0 < n.ids.length:=by omega
      clear c1 jN c2 oK c3 pc c4 jE w_;go_wp2_with fail;refine (xe _ _ _ _ n ls k es l gt jp W (H.out.keep HW.out.below) (HL.out.keep HW.out.below) ml.out n9 p9.out GY.out Hk.out Ql.out Nd.out).mono ?_;rintro e W5 ⟨rfl,jT⟩;have mx:=zh jT;clear jT;go_wp2;go_ret;exact ⟨bP hr.out.symm,aa.after bv.out (HW.out.after mx.out)⟩
def eL (n : am) (s : Int) (ls : List Int) : Bool:=an n && ee 1 5 s && ((ls.length : Int) == (n.ends.length : Int)) && qK ls 0 999999999999
theorem kb (ve vi vn vl : Value) (n : am) (s : Int) (ls : List Int) (w : World) (h : aT w ve vi vn n) (hl : bD w vl ls) (ed : f_ n ≤ 1048576) :
  Calls Tryz.prog 60 #[.agg #[ve,vi,vn],.int .i64 s,vl] w fun e w' => e = .returned (.bool (eL n s ls)) ∧ Below w.heap.size w w':=by
 obtain ⟨w0,A,c,A2,c2,A3,c3,rfl,rfl,rfl,ft,hm,f6,gF,HA,dh,bv,H,eG,eX,fb⟩:=zB h;clear h
 have HL:=zh (hl.keep bv.out);obtain ⟨AL,cL,rfl,sA,mn,_⟩:=hl;unfold maxLen at mn
 go_enter Tryz.func60,Tryz.ntmps60
 go_upto_region 1 with (fail);rw [← dh.out];refine aB 19 (aa w0) (ad _) ?_;simp only [zT]
 apply ag rfl;(intro W hW;go_simp;with_reducible rfl);simp only [zA]
 refine dn ?_ rfl ?_ ?_;rotate_left;(intro W hW;unfold bG;go_simp;(with_reducible refine (dF _ _ _ n W (H.out.keep hW.below) (kn ed)).mono ?_);rintro e W' ⟨rfl,bg⟩;first | (refine ⟨?_,aa.trans hW bg⟩;with_reducible rfl) | (subst bg;refine ⟨?_,hW⟩;with_reducible rfl))
 simp only [zA]
 apply ag rfl;(intro W hW;go_simp;with_reducible rfl);simp only [zA]
 apply aj rfl rfl;(intro hb;intro W hW;go_simp;with_reducible rfl);simp only [zA]
 refine bC (v:=?_) rfl rfl ?_ ?_;rotate_left;(intro hb;intro W hW;unfold bG;go_simp;(with_reducible refine (kt _ W).mono ?_);rintro e W' ⟨rfl,bg⟩;first | (refine ⟨?_,aa.trans hW bg⟩;with_reducible rfl) | (subst bg;refine ⟨?_,hW⟩;with_reducible rfl))
 simp only [zA]
 (first | refine bJ rfl rfl ?_ | (apply ag rfl;(intro W hW;go_simp;with_reducible rfl)));simp only [zA]
 apply ag rfl;(intro W hW;go_simp;with_reducible rfl);simp only [zA]
 iterate 6 (apply aj rfl rfl;(intro hb;intro W hW;go_simp;with_reducible rfl);simp only [zA])
 (first | refine bJ rfl rfl ?_ | (apply ag rfl;(intro W hW;go_simp;with_reducible rfl)));simp only [zA]
 apply ag rfl;(intro W hW;go_simp;with_reducible rfl);simp only [zA]
 apply aj rfl rfl;(intro hb;intro W hW;go_simp;with_reducible rfl);simp only [zA]
 refine bC (v:=?_) rfl rfl ?_ ?_;rotate_left;(intro hb;intro W hW;unfold bG;go_simp;(with_reducible refine (zd _ ls _ _ W (HL.out.keep hW.below)).mono ?_);rintro e W' ⟨rfl,bg⟩;first | (refine ⟨?_,aa.trans hW bg⟩;with_reducible rfl) | (subst bg;refine ⟨?_,hW⟩;with_reducible rfl))
 simp only [zA]
 (first | refine bJ rfl rfl ?_ | (apply ag rfl;(intro W hW;go_simp;with_reducible rfl)));simp only [zA]
 apply ag rfl;(intro W hW;go_simp;with_reducible rfl);simp only [zA]
 intro W hW;have HW:=zh hW;clear hW;go_wp2;go_ret;exact ⟨rfl,aa.after bv.out HW.out⟩
def fi (n : am) (s : Int) (ls : List Int) (k : Nat) : Bool:=fU n s ls (ls.getD k 0) (n.ids.getD k 0) (n.inputs.getD k 0) (n.ends.getD k [])
theorem Qm {n : am} {s : Int} {ls : List Int} (h : eL n s ls = true) {k : Nat} (hk : k < n.ends.length) :
  ∃ es l gt jp,1 ≤ s ∧ s ≤ 5 ∧ n.ends[k]? = some es ∧ es.length ≤ 6 ∧ (∀ e ∈ es,0 ≤ e.1 ∧ e.1 < ls.length) ∧ (∀ x ∈ l :: aw ls es,0 ≤ x ∧ x ≤ 999999999999) ∧ ls[k]? = some l ∧ (n.ids.length ≠ 0 → n.ids[k]? = some gt) ∧ n.inputs[k]? = some jp ∧ fi n s ls k = fU n s ls l gt jp es:=by
 unfold eL at h;simp only [Bool.and_eq_true,beq_iff_eq] at h;obtain ⟨⟨⟨h1,h2⟩,h3⟩,h4⟩:=h;have hs:=aM.1 h2;have hl : ls.length = n.ends.length:=by omega
 obtain ⟨es,cM⟩:=aW n.ends k hk;obtain ⟨l,G4⟩:=aW ls k (by omega);obtain ⟨r1,r2⟩:=df h1 cM;unfold qK at h4;rw [List.all_eq_true] at h4;have ha : ∀ x ∈ ls,0 ≤ x ∧ x ≤ 999999999999:=fun x hx => aM.1 (h4 x hx)
 unfold an at h1;simp only [Bool.and_eq_true] at h1;obtain ⟨⟨⟨-,i1⟩,i2⟩,-⟩:=h1;unfold jl at i2;simp only [Bool.and_eq_true,beq_iff_eq] at i2;obtain ⟨jp,Kb⟩:=aW n.inputs k (by omega)
 have Dg : n.ids.length ≠ 0 → n.ids[k]? = some (n.ids.getD k 0):=fun h0 => by
  unfold sy at i1;simp only [Bool.or_eq_true,Bool.and_eq_true,beq_iff_eq] at i1
  have : n.ids.length = n.ends.length:=by
   rcases i1 with e | ⟨e,-⟩
   ·exact absurd (by simpa using e) h0
   ·omega
  have lu : k < n.ids.length:=by omega
  rw [zDd,List.getElem?_eq_getElem lu];rfl
 exact ⟨es,l,_,jp,hs.1,hs.2,cM,r1,fun e he => by rw [hl];exact r2 e he,fun x hx => ha x (MT G4 (fun e he => by rw [hl];exact r2 e he) hx),G4,Dg,Kb,by simp [fi,cM,G4,Kb]⟩
theorem yh {n : am} {s : Int} {ls : List Int} (h : eL n s ls = true) : an n = true ∧ ls.length = n.ends.length ∧ n.ends.length ≤ 40:=by
 unfold eL at h;simp only [Bool.and_eq_true,beq_iff_eq] at h
 exact ⟨h.1.1.1,by have:=h.1.2;omega,(aN h.1.1.1).2⟩
theorem Uo {a b c d : Bool} (h1 : a = b) (h2 : c = d) : Ending.returned (.tuple #[.bool a,.bool c]) = .returned (.tuple #[.bool b,.bool d]):=by rw [h1,h2]
theorem my {n : am} (h : an n = true) {k : Nat} (hk : k < n.ends.length) :
  n.ends[k]? = some (n.ends.getD k []) ∧ (n.ends.getD k []).length ≤ 6 ∧ (∀ e ∈ n.ends.getD k [],0 ≤ e.1 ∧ e.1 < n.ends.length) ∧ (n.ids.length ≠ 0 → n.ids[k]? = some (n.ids.getD k 0)) ∧ n.inputs[k]? = some (n.inputs.getD k 0):=by
 obtain ⟨es,cM⟩:=aW n.ends k hk;have e : n.ends.getD k [] = es:=by simp [zDd,cM]
 obtain ⟨r1,r2⟩:=df h cM;unfold an at h;simp only [Bool.and_eq_true] at h;obtain ⟨⟨⟨-,i1⟩,i2⟩,-⟩:=h;unfold jl at i2;simp only [Bool.and_eq_true,beq_iff_eq] at i2;obtain ⟨jp,Kb⟩:=aW n.inputs k (by omega)
 have Dg : n.ids.length ≠ 0 → n.ids[k]? = some (n.ids.getD k 0):=fun h0 => by
  unfold sy at i1;simp only [Bool.or_eq_true,Bool.and_eq_true,beq_iff_eq] at i1
  have : n.ids.length = n.ends.length:=by
   rcases i1 with e | ⟨e,-⟩
   ·exact absurd (by simpa using e) h0
   ·omega
  have lu : k < n.ids.length:=by omega
  rw [zDd,List.getElem?_eq_getElem lu];rfl
 rw [e]
 exact ⟨cM,r1,r2,Dg,by rw [Kb];simp [Kb]⟩
def rE (s m most : Int) : Prop:=(s = 0 ∧ 3 ≤ m ∧ m ≤ 40 ∧ most = m - 1) ∨ (1 ≤ s ∧ s ≤ 5 ∧ 0 ≤ most ∧ most ≤ 999999999999)
theorem rE.most {s m most : Int} (h : rE s m most) : 0 ≤ most ∧ most ≤ 999999999999:=by unfold rE at h;omega
def accG (n : am) (s m : Int) (ls : List Int) (k : Nat) : Bool:=if s = 0 then sB m (ls.getD k 0) (aw ls (n.ends.getD k [])) else fi n s ls k
def AS (W : World) (B : Nat) (ve vi vn : Value) (s m most lim st : Int) (vl : Value) : Prop:=W.heap[B]? = some (.cells #[ve,vi,vn,.int .i64 s,.int .i64 m,.int .i64 most,.int .i64 lim,.int .i64 st,vl] 109)
section
variable {W W' : World} {B : Nat} {ve vi vn vl : Value} {s m most lim st : Int}
theorem AS.c0 (h : AS W B ve vi vn s m most lim st vl) : W.cell? ⟨B,0,none⟩ = some ve:=by unfold AS at h;simp [World.cell?,h]
theorem AS.c1 (h : AS W B ve vi vn s m most lim st vl) : W.cell? ⟨B,1,none⟩ = some vi:=by unfold AS at h;simp [World.cell?,h]
theorem AS.c2 (h : AS W B ve vi vn s m most lim st vl) : W.cell? ⟨B,2,none⟩ = some vn:=by unfold AS at h;simp [World.cell?,h]
theorem AS.c3 (h : AS W B ve vi vn s m most lim st vl) : W.cell? ⟨B,3,none⟩ = some (.int .i64 s):=by unfold AS at h;simp [World.cell?,h]
theorem AS.c4 (h : AS W B ve vi vn s m most lim st vl) : W.cell? ⟨B,4,none⟩ = some (.int .i64 m):=by unfold AS at h;simp [World.cell?,h]
theorem AS.c5 (h : AS W B ve vi vn s m most lim st vl) : W.cell? ⟨B,5,none⟩ = some (.int .i64 most):=by unfold AS at h;simp [World.cell?,h]
theorem AS.c6 (h : AS W B ve vi vn s m most lim st vl) : W.cell? ⟨B,6,none⟩ = some (.int .i64 lim):=by unfold AS at h;simp [World.cell?,h]
theorem AS.c7 (h : AS W B ve vi vn s m most lim st vl) : W.cell? ⟨B,7,none⟩ = some (.int .i64 st):=by unfold AS at h;simp [World.cell?,h]
theorem AS.c8 (h : AS W B ve vi vn s m most lim st vl) : W.cell? ⟨B,8,none⟩ = some vl:=by unfold AS at h;simp [World.cell?,h]
theorem AS.fz (h : AS W B ve vi vn s m most lim st vl) (k : Nat) : W.frozen? ⟨B,k,none⟩ = false:=by unfold AS at h;simp [World.frozen?,h]
theorem AS.lt (h : AS W B ve vi vn s m most lim st vl) : B < W.heap.size:=(Array.getElem?_eq_some_iff.1 h).1
theorem AS.since (h : AS W B ve vi vn s m most lim st vl) (hs : aa W W') : AS W' B ve vi vn s m most lim st vl:=(hs.below.block B h.lt).trans h
theorem AS.other (h : AS W B ve vi vn s m most lim st vl) {b' : Nat} (hb : B ≠ b') (i : Nat) (v : Value) : AS (W.setCell ⟨b',i,none⟩ v) B ve vi vn s m most lim st vl:=(Below.heap_setCell W _ v B hb).trans h
theorem AS.setS (h : AS W B ve vi vn s m most lim st vl) (jY : Int) : AS (W.setCell ⟨B,7,none⟩ (.int .i64 jY)) B ve vi vn s m most lim jY vl:=by
 unfold AS at *
 simp [World.setCell,Array.getElem?_modify,h]
theorem AS.setL (h : AS W B ve vi vn s m most lim st vl) (I3 : Value) : AS (W.setCell ⟨B,8,none⟩ I3) B ve vi vn s m most lim st I3:=by
 unfold AS at *
 simp [World.setCell,Array.getElem?_modify,h]
end
theorem DJ (N : Nat) (w : World) (hN : N ≤ 1000000) : Calls Tryz.prog 143 #[.int .i64 N] w fun e w' => ∃ u,e = .returned u ∧ Own w' w.heap.size u (List.replicate N (-1)) ∧ Below w.heap.size w w':=by
 go_enter Tryz.func143,Tryz.ntmps143
 go_wp2_with (at_make;refine k6 _ rfl _ _ rfl _ _ N rfl rfl rfl rfl (by omega) ?_;intro w1 iu bj eF)
 obtain ⟨g,hg⟩ : ∃ g,g = w.heap.size:=⟨_,rfl⟩
 rw [← hg] at iu eF ⊢;have Hg:=zh hg;clear hg eF;go_wp2
 go_loopw [9] (fun i wr => ∃ k : Nat,k ≤ N ∧ i = .int .i64 k ∧ Own wr w.heap.size (.slice (some ⟨g,0,none⟩) N N) (List.replicate k (-1) ++ List.replicate (N - k) 0) ∧ Below w.heap.size w wr) (fun i _ => N - (intOf i).toNat)
 case atStart => exact ⟨0,Nat.zero_le _,rfl,by have:=iu;simpa [Hg.out] using this,bj⟩
 case round =>
  obtain ⟨k,hk,rfl,ho,hb⟩:=hrel;have Ho:=zh ho;have Hb:=zh hb;clear iu bj ho hb
  by_cases hlt : k < N
  ·obtain ⟨y,hy⟩:=aW (List.replicate k (-1 : Int) ++ List.replicate (N - k) 0) k (by simp;omega)
   have cz:=Ho.out.cell hy;have fz:=Ho.out.free k;clear hy;go_wp2;go_roundw
   case rel =>
    refine ⟨k + 1,by omega,by go_num,?_,Hb.out.setCell (by show w.heap.size ≤ g;rw [Hg.out];exact Nat.le_refl _) _⟩
    have:=Ho.out.set (k:=k) (-1)
    have e : (List.replicate k (-1 : Int) ++ List.replicate (N - k) 0).set k (-1) = List.replicate (k + 1) (-1) ++ List.replicate (N - (k + 1)) 0:=by
     rw [List.set_append_right _ _ (by simp),List.length_replicate,Nat.sub_self,show N - k = (N - (k + 1)) + 1 by omega,List.replicate_succ,List.set_cons_zero,List.replicate_succ',List.append_assoc]
     rfl
    rwa [e] at this
   case measure => simp [intOf];omega
  ·obtain rfl : k = N:=by omega
   go_wp2;go_ret
   exact ⟨_,rfl,by have:=Ho.out;rwa [Nat.sub_self,List.replicate_zero,List.append_nil] at this,Hb.out⟩
theorem G5 (ve vi vn vl : Value) (n : am) (s m most lim st : Int) (B x v : Nat) (w : World) (h : aT w ve vi vn n) (ha : AS w B ve vi vn s m most lim st vl) (hn : an n = true) (hx : x < n.ends.length) (hv : v ≤ 1000000) :
  Calls Tryz.prog 199 #[.pointer (some ⟨B,0,none⟩),.int .i64 x,.int .i64 v] w fun e w' => e = .returned (.bool (fF n x v)) ∧ Below w.heap.size w w':=by
 have H:=zh h;have N1:=zh (my hn hx);have q0:=ha.c0;have q1:=ha.c1;have q2:=ha.c2;have q8:=ha.c8;obtain ⟨⟨A,c,rfl,ft,hm,_⟩,⟨A2,oK,rfl,_,ly,_⟩,⟨A3,pc,rfl,_,rF,_⟩⟩:=h;clear ha hn
 by_cases qL : (x : Int) ≤ (v : Int)
 ·have Hk : Hid (fF n x v = ((n.ends.getD x []).map fun e => e.1).all (ee 0 v)):=by
   show _ = _
   unfold fF;simp [qL]
  go_enter Tryz.func199,Tryz.ntmps199
  go_wp2_with fail
  refine (kz _ _ _ n x _ w H.out N1.out.1 (by have:=N1.out.2.1;omega)).mono ?_
  rintro e w1 ⟨u,rfl,ho,hb⟩;have HI:=zh ho.ints;have Hb:=zh hb;clear ho hb;go_wp2_with fail;have hq:=ru _ _ 0 v w1 HI.out;rw [← Hk.out] at hq;refine hq.mono ?_;clear hq;rintro e w2 ⟨rfl,rfl⟩;go_wp2;go_ret;exact ⟨rfl,Hb.out⟩
 ·have Hk : Hid (fF n x v = false):=by
   show _ = _
   unfold fF;simp only [Bool.and_eq_false_iff,decide_eq_false_iff_not];exact .inl qL
  go_enter Tryz.func199,Tryz.ntmps199
  go_wp2;go_ret;exact ⟨congrArg (fun b => Ending.returned (.bool b)) Hk.out.symm,Below.refl _ _⟩
theorem ze (ve vi vn vl : Value) (n : am) (s m most lim st : Int) (ls : List Int) (B k : Nat) (w : World) (h : aT w ve vi vn n) (hl : bD w vl ls) (ha : AS w B ve vi vn s m most lim st vl) (hn : an n = true) (hk : k < n.ends.length) (p_ : ls.length = n.ends.length) (hK : rE s m most)
  (DK : ∀ x ∈ ls.getD k 0 :: aw ls (n.ends.getD k []),0 ≤ x ∧ x ≤ most) :
  Calls Tryz.prog 200 #[.pointer (some ⟨B,0,none⟩),.int .i64 k] w fun e w' => e = .returned (.bool (accG n s m ls k)) ∧ Below w.heap.size w w':=by
 have H:=zh h;have HL:=zh hl;obtain ⟨n1,n2,n3,n4,n5⟩:=my hn hk
 have CU : ls[k]? = some (ls.getD k 0):=by rw [zDd,List.getElem?_eq_getElem (by omega)];rfl
 have IQ:=hK.most;have aY:=DK (ls.getD k 0) (by simp)
 have dC : ∀ e ∈ n.ends.getD k [],0 ≤ e.1 ∧ e.1 < ls.length:=fun e he => by rw [p_];exact n3 e he
 have q0:=ae ha.c0;have q1:=ae ha.c1;have q2:=ae ha.c2;have q3:=ae ha.c3;have q4:=ae ha.c4;have q8:=ae ha.c8;obtain ⟨AL,cL,rfl,sA,mn,_⟩:=hl;obtain ⟨⟨A,c,rfl,ft,hm,_⟩,⟨A2,oK,rfl,_,ly,_⟩,⟨A3,pc,rfl,_,rF,_⟩⟩:=h;rcases hK with ⟨rfl,k1,k2,k3⟩ | ⟨k1,k2,k3,k4⟩
 ·have Hc : Hid (∀ W,aa w W → Calls Tryz.prog 221 #[.agg #[.slice A n.ends.length c,.slice A2 n.ids.length oK,.slice A3 n.inputs.length pc],.int .i64 m,.slice AL ls.length cL,.int .i64 k] W fun e w' => e = .returned (.bool (accG n 0 m ls k)) ∧ Below W.heap.size W w'):=fun W hW => by
   have:=yR _ _ _ _ n m ls k _ (ls.getD k 0) W (H.out.keep hW.below) (HL.out.keep hW.below) n1 n2 dC k1 k2 CU aY.1 (by omega)
   rw [show accG n 0 m ls k = sB m (ls.getD k 0) (aw ls (n.ends.getD k [])) by simp [accG]]
   exact this
  clear ha hn n1 n2 n3 n4 n5 CU DK dC aY k3 p_
  go_enter Tryz.func200,Tryz.ntmps200
  go_upto_region 2 with (fail);refine cm (w0:=w) 15 [false,false,false,false,false,false,false,false,false,false,false,false,false,true,true] (by kernel_rfl) (by kernel_rfl) (ad _) ?_;simp only [d_,dO,zT]
  iterate 13 (apply bB rfl;(intro W hW;go_simp;with_reducible rfl);simp only [zA])
  intro W hW;refine Or.inl ⟨rfl,?_⟩
  go_simp
  (with_reducible refine (Hc.out W hW).mono ?_)
  rintro e W' ⟨rfl,hb⟩;refine ⟨_,rfl,hW.trans hb,?_⟩
  replace hW:=hW.trans hb
  (try simp only [zA])
  refine dA (v:=?_) rfl ?_ hW ?_;rotate_left;(go_simp;with_reducible rfl)
  simp only [zA];simp only [bA];have HW:=zh hW;clear q0 q1 q2 q3 q4 q8 hW;go_wp2;go_ret;exact ⟨rfl,HW.out⟩
 ·have Hc : Hid (∀ W,aa w W → Calls Tryz.prog 126 #[.agg #[.slice A n.ends.length c,.slice A2 n.ids.length oK,.slice A3 n.inputs.length pc],.int .i64 s,.slice AL ls.length cL,.int .i64 k] W fun e w' => e = .returned (.bool (accG n s m ls k)) ∧ Below W.heap.size W w'):=fun W hW => by
   have:=Ka _ _ _ _ n s ls k _ (ls.getD k 0) _ _ W (H.out.keep hW.below) (HL.out.keep hW.below) k1 k2 n1 n2 dC (fun x hx => ⟨(DK x hx).1,by have:=(DK x hx).2;omega⟩) CU n4 n5
   rw [show accG n s m ls k = fi n s ls k by simp only [accG];rw [if_neg (by omega)]]
   exact this
  have cX : (s == 0) = false:=by rw [beq_eq_false_iff_ne];omega
  clear ha hn n1 n2 n3 n4 n5 CU DK dC aY p_
  go_enter Tryz.func200,Tryz.ntmps200
  go_upto_region 3 with (fail);refine cm (w0:=w) 15 [false,false,false,false,false,false,false,false,false,false,false,false,false,true,true] (by kernel_rfl) (by kernel_rfl) (ad _) ?_;simp only [d_,dO,zT]
  iterate 13 (apply bB rfl;(intro W hW;go_simp;with_reducible rfl);simp only [zA])
  intro W hW;refine Or.inl ⟨rfl,?_⟩
  go_simp
  (with_reducible refine (Hc.out W hW).mono ?_)
  rintro e W' ⟨rfl,hb⟩;refine ⟨_,rfl,hW.trans hb,?_⟩
  replace hW:=hW.trans hb
  (try simp only [zA])
  refine dA (v:=?_) rfl ?_ hW ?_;rotate_left;(go_simp;with_reducible rfl)
  simp only [zA];simp only [bA];have HW:=zh hW;clear q0 q1 q2 q3 q4 q8 hW;go_wp2;go_ret;exact ⟨rfl,HW.out⟩
theorem lz {p : Int → Bool} {xs : List Int} {j : Nat} {x : Int} (hx : xs[j]? = some x) (h : (xs.take j).all p = true) (hp : p x = true) : (xs.take (j + 1)).all p = true:=by
 rw [bk hx,List.all_append,h];simp [hp]
theorem yi (n : am) (v : Nat) : (mM n v).length = ((n.ends.getD v []).map fun e => e.1).length + 1:=by simp [mM]
theorem G6 (ve vi vn vl : Value) (n : am) (s m most lim st : Int) (ls : List Int) (B v : Nat) (w : World) (h : aT w ve vi vn n) (hl : bD w vl ls) (ha : AS w B ve vi vn s m most lim st vl) (hn : an n = true) (hv : v < n.ends.length) (hK : rE s m most) (hU : Up n.ends.length most ls v) :
  Calls Tryz.prog 144 #[.pointer (some ⟨B,0,none⟩),.int .i64 v] w fun e w' => e = .returned (.bool (eC n (accG n s m) ls v)) ∧ Below w.heap.size w w':=by
 have H:=zh h;have HL:=zh hl;have HA:=zh ha;have uh:=(aN hn).2;obtain ⟨n1,n2,n3,-,-⟩:=my hn hv;have N1:=zh n1;have cM : ((n.ends.getD v []).map fun e => e.1).length ≤ 6:=by simpa using n2
 have Hn:=zh hn;have HU:=zh hU;have q0:=ae ha.c0;have q1:=ae ha.c1;have q2:=ae ha.c2;obtain ⟨⟨A,c,rfl,ft,hm,_⟩,⟨A2,oK,rfl,_,ly,_⟩,⟨A3,pc,rfl,_,rF,_⟩⟩:=h;obtain ⟨vw,I4⟩ : ∃ x,x = mM n v:=⟨_,rfl⟩
 have hvl : vw.length = ((n.ends.getD v []).map fun e => e.1).length + 1:=by rw [I4,yi]
 have OY:=zh I4;have cX : aa w w:=ad _;clear hl ha hn n1 n2 n3 hU I4
 go_enter Tryz.func144,Tryz.ntmps144
 go_wp2_with fail
 refine (kz _ _ _ n v _ w H.out N1.out (by have:=cM;rw [List.length_map] at this;omega)).mono ?_
 rintro e w1 ⟨u,rfl,iu,bj⟩;have wI:=zh iu;have dm : aa w w1:=bj;obtain ⟨Uq,Qn⟩ : ∃ x,x = (n.ends.getD v []).map fun e => e.1:=⟨_,rfl⟩
 rw [← Qn] at cM hvl wI;have ZE:=zh Qn;clear iu bj cX Qn
 go_wp2_with (at_builtin;refine ic rfl _ _ rfl rfl (wI.out.since (ah _ (ad _))) w1.heap.size v rfl (by simp [go_sem]) (by omega) (ah _ dm) ?_;intro g cc w2 dL dE)
 have iU : Hid (Own w2 w.heap.size (.slice (some ⟨g,0,none⟩) (Uq.length + 1) cc) vw):=by
  show Own _ _ _ _
  rw [OY.out,mM,← ZE.out];exact dL
 have cw:=zh dE;clear dL dm dE;go_wp2
 go_loopw [17] (fun i wr => ∃ j : Nat,j ≤ Uq.length + 1 ∧ i = .int .i64 j ∧ (vw.take j).all (fun x => !fF n x v || accG n s m ls x.toNat) = true ∧ aa w2 wr) (fun i _ => Uq.length + 1 - (intOf i).toNat)
 case atStart => exact ⟨0,Nat.zero_le _,rfl,rfl,ad _⟩
 case round =>
  obtain ⟨j,hj,rfl,bW,cJ⟩:=hrel;have fk:=zh bW;clear bW
  by_cases hlt : j < Uq.length + 1
  ·obtain ⟨x,hx⟩:=aW vw j (by omega)
   have DL:=FF Hn.out hv x (by have:=List.mem_of_getElem? hx;rwa [OY.out] at this)
   obtain ⟨k,rfl⟩:=Int.eq_ofNat_of_zero_le DL.1;have hk : k < n.ends.length:=by omega
   have cx:=cJ.cell (iU.out.cell hx);have iA:=cw.out.after cJ;have Hx:=zh hx;have XR : v ≤ 1000000:=by omega
   clear hx DL;go_wp2_with fail;refine (G5 _ _ _ _ n s m most lim st B k v wr (H.out.keep iA.below) (HA.out.since iA) Hn.out hk XR).mono ?_;rintro e w3 ⟨rfl,bg⟩;have iB:=aa.trans cJ bg;have Nf:=aa.trans iA bg;clear bg cx cJ iA;cases Dp : fF n (k : Int) v
   ·have Hp : Hid ((vw.take (j + 1)).all (fun x => !fF n x v || accG n s m ls x.toNat) = true):=lz Hx.out fk.out (by simp [Dp])
    clear Dp;go_wp2;go_roundw
    case rel => exact ⟨j + 1,by omega,by go_num,Hp.out,iB⟩
    case measure => simp [intOf];omega
   ·have Hkn:=zh Dp;have DK:=uy Hn.out HU.out (w:=(k : Int)) (by omega) (by omega) Dp;rw [Int.toNat_natCast] at DK;have ZF:=zh DK;clear Dp DK;go_wp2_with fail;refine (ze _ _ _ _ n s m most lim st ls B k w3 (H.out.keep Nf.below) (HL.out.keep Nf.below) (HA.out.since Nf) Hn.out hk HU.out.len hK ZF.out).mono ?_;rintro e w4 ⟨rfl,xV⟩;have kD:=aa.trans iB xV;clear xV iB Nf;cases Qo : accG n s m ls k
    ·have Hr : Hid (eC n (accG n s m) ls v = false):=by
      show _ = _
      unfold eC;rw [← OY.out];exact tB Hx.out (by simp [Hkn.out,Qo])
     clear Qo;go_wp2;go_ret;exact ⟨congrArg (fun b => Ending.returned (.bool b)) Hr.out.symm,cw.out.after kD⟩
    ·have Hp : Hid ((vw.take (j + 1)).all (fun x => !fF n x v || accG n s m ls x.toNat) = true):=lz Hx.out fk.out (by simp [Qo])
     clear Qo;go_wp2;go_roundw
     case rel => exact ⟨j + 1,by omega,by go_num,Hp.out,kD⟩
     case measure => simp [intOf];omega
  ·obtain rfl : j = Uq.length + 1:=by omega
   have Hr : Hid (eC n (accG n s m) ls v = true):=by
    show _ = _
    unfold eC;rw [← OY.out]
    have:=fk.out
    rwa [iC vw (by omega)] at this
   go_wp2;go_ret;exact ⟨congrArg (fun b => Ending.returned (.bool b)) Hr.out.symm,cw.out.after cJ⟩
def dY (n : am) (s m most lim : Int) : List Int × Int × Int:=gL (eC n (accG n s m)) most lim (iW lim 0 n.ends.length 0) (List.replicate n.ends.length (-1)) 0 0
theorem rG {W : World} {base b k : Nat} {u : Value} {xs : List Int} (h : Own W base u xs) (hd : u.ownBlock ≠ some b) (v : Value) : Own (W.setCell ⟨b,k,none⟩ v) base u xs:=
 aO h fun j hj => Below.heap_setCell W _ v j (fun e => hd (by simp at hj;rw [hj,e]))
theorem getD_some {ls : List Int} {v : Nat} (h : v < ls.length) : ls[v]? = some (ls.getD v 0):=by rw [zDd,List.getElem?_eq_getElem h];rfl
theorem By (ve vi vn vl : Value) (n : am) (s m most lim : Int) (B : Nat) (w w0 : World) (h : aT w0 ve vi vn n) (cX : aa w0 w) (hB : w0.heap.size ≤ B) (ha : AS w B ve vi vn s m most lim 0 vl) (hn : an n = true) (hK : rE s m most) (Gv : 0 ≤ lim) (rj : lim ≤ 1000000000) :
  Calls Tryz.prog 76 #[.pointer (some ⟨B,0,none⟩)] w fun e w' => e = .returned (.int .i64 (dY n s m most lim).2.1) ∧ aa w0 w' ∧ ∃ I3,AS w' B ve vi vn s m most lim (dY n s m most lim).2.2 I3 ∧ ((dY n s m most lim).2.1 = 1 → Own w' w0.heap.size I3 (dY n s m most lim).1):=by
 have H:=zh h;have Hn:=zh hn;have IQ:=hK.most;have kE:=aN hn;obtain ⟨R,hR⟩ : ∃ R,R = dY n s m most lim:=⟨_,rfl⟩
 have HR:=zh hR;rw [← hR];clear hR hn;obtain ⟨A,c,XS,-⟩:=id h.1;have q0:=ha.c0;rw [XS] at q0;have HA:=zh ha;have pK:=zh cX;have hB8:=ha.fz 8;have hc8:=ha.c8;clear ha cX
 go_enter Tryz.func76,Tryz.ntmps76
 go_wp2_with fail;refine (DJ n.ends.length w (by omega)).mono ?_;rintro e w1 ⟨u1,rfl,iu,bj⟩;rcases iu.cases with ⟨-,e1⟩ | ⟨g,c1,rfl,ib,oH⟩
 ·have:=congrArg List.length e1;rw [List.length_replicate,List.length_nil] at this;omega
 rw [List.length_replicate] at iu ⊢;have po:=zh (HA.out.since bj);have Qp:=po.out.c8;have Qq:=po.out.fz 8
 have I5 : g ≠ B:=fun e => by have h1:=HA.out.lt;have h2 : w.heap.size ≤ g:=ib;rw [e] at h2;omega
 obtain ⟨w2,dK⟩ : ∃ w2,w2 = w1.setCell ⟨B,8,none⟩ (.slice (some ⟨g,0,none⟩) n.ends.length c1):=⟨_,rfl⟩
 have ZG : Hid (AS w2 B ve vi vn s m most lim 0 (.slice (some ⟨g,0,none⟩) n.ends.length c1)):=by rw [dK];exact po.out.setL _
 have iU : Hid (Own w2 w0.heap.size (.slice (some ⟨g,0,none⟩) n.ends.length c1) (List.replicate n.ends.length (-1))):=by
  rw [dK];exact rG (iu.mono pK.out.below.size) (by simpa [Value.ownBlock] using I5) _
 have cw : Hid (aa w0 w2):=by rw [dK];exact Below.setCell (aa.trans pK.out bj) hB _
 have j7:=zh dK;have Kc : Hid (w0.heap.size ≤ g):=Nat.le_trans pK.out.below.size ib;clear iu bj dK q0 hB8 hc8 ib oH;go_upto_region 2 with (fail);rw [← j7.out];clear Qp Qq;go_wp2
 go_loopw [3] (fun i wr => ∃ (f : Nat) (ls : List Int) (v : Nat) (made : Int),aa w0 wr ∧ AS wr B ve vi vn s m most lim made (.slice (some ⟨g,0,none⟩) n.ends.length c1) ∧ Own wr w0.heap.size (.slice (some ⟨g,0,none⟩) n.ends.length c1) ls ∧ ls.length = n.ends.length ∧ 0 ≤ made ∧ made ≤ lim ∧
   ((i = .int .i64 v ∧ v ≤ n.ends.length ∧ St n.ends.length most ls v ∧ iW lim made n.ends.length v ≤ f ∧ gL (eC n (accG n s m)) most lim f ls v made = R) ∨ (i = .int .i64 (-1) ∧ v = 0 ∧ R = ([],2,made)))) (fun i wr => (intOf i + 1).toNat + (lim - (match wr.cell? ⟨B,7,none⟩ with | some (.int _ x) => x | _ => 0)).toNat * (n.ends.length + 2))
 case atStart => exact ⟨_,_,0,0,cw.out,ZG.out,iU.out,by simp,Int.le_refl _,Gv,.inl ⟨rfl,Nat.zero_le _,St.start _ _ IQ.1,Nat.le_refl _,HR.out.symm⟩⟩
 case round =>
  obtain ⟨f,ls,v,made,hs,ha,ho,p_,kW,GA,ZH⟩:=hrel;have Mp:=zh ha;have Ho:=zh ho;have a5:=ae ha.c5;have a6:=ae ha.c6;have a7:=ae ha.c7;have a8:=ae ha.c8;have b8:=ha.c8;have b7:=ha.c7;have f7:=ha.fz 7;have zf:=zh p_;clear ha ho p_;rcases ZH with ⟨rfl,hv,gE,hf,hR⟩ | ⟨rfl,rfl,hR⟩
  ·obtain ⟨f,rfl⟩ : ∃ f',f = f' + 1:=⟨f - 1,by unfold iW at hf;omega⟩
   have I6:=zh hR;have pd:=zh gE;have Hf:=zh hf;clear hR gE hf
   by_cases hlt : v < n.ends.length
   ·obtain ⟨x,hx⟩ : ∃ x,x = ls.getD v 0:=⟨_,rfl⟩
    have cx:=Ho.out.cell (getD_some (show v < ls.length by rw [zf.out];exact hlt))
    have fx:=Ho.out.free v;rw [← hx] at cx;have dx:=ae cx;have FK:=pd.out.at_ hlt;rw [← hx] at FK;have Hx:=zh hx
    have hlv : v < ls.length:=by rw [zf.out];exact hlt
    have Mq:=zh hlv;clear hx hlv
    by_cases xQ : x = most
    ·-- back
     subst xQ;go_upto_region 6 with (fail);refine ao 12 (aa wr) (by kernel_rfl) (by kernel_rfl) (by simp) (ak (ad _)) ?_;simp only [zT]
     iterate 12 (apply ag rfl;(intro W hW;go_simp;with_reducible rfl);simp only [zA])
     intro W hW;have rD:=hs.after hW;have Ng:=zh (Mp.out.since hW);have JO:=zh (Ho.out.since hW);have c8:=Ng.out.c8;have cz:=hW.cell cx;have fz:=JO.out.free v;clear a5 a6 a7 a8 b8 b7 f7 cx fx dx;have m1 : IntKind.i64.wrap ((v : Int) - 1) = (v : Int) - 1:=aL _ (by omega) (by omega);have DM : Hid (ls.getD v 0 = x):=Hx.out.symm;go_wp2;go_roundw
     case rel =>
      have HAn:=Ng.out.other (Ne.symm I5) v (.int .i64 (-1))
      refine ⟨f,ls.set v (-1),v - 1,made,Below.setCell rD Kc.out _,HAn,JO.out.set (k:=v) (-1),by rw [List.length_set];exact zf.out,kW,GA,?_⟩
      by_cases sR : v = 0
      ·subst sR;exact .inr ⟨by simp,rfl,by rw [← I6.out,x_ Mq.out DM.out]⟩
      ·refine .inl ⟨by congr 1;omega,by omega,pd.out.back sR,?_,?_⟩
       ·have:=yd (lim:=lim) (made:=made) (N:=n.ends.length) sR
        have:=Hf.out
        omega
       ·rw [← I6.out,ya Mq.out DM.out sR]
     case measure =>
      have e : (W.setCell ⟨g,v,none⟩ (.int .i64 (-1))).cell? ⟨B,7,none⟩ = some (.int .i64 made):=(Ng.out.other (Ne.symm I5) v (.int .i64 (-1))).c7;rw [e,Mp.out.c7];simp [intOf]
    ·go_upto_region 6 with (fail);refine ao 12 (aa wr) (by kernel_rfl) (by kernel_rfl) (by simp) (ak (ad _)) ?_;simp only [zT]
     iterate 12 (apply ag rfl;(intro W hW;go_simp;with_reducible rfl);simp only [zA])
     intro W hW;have d6:=ai a6 hW;have d7:=ai a7 hW
     have Zl : (x == most) = false:=by rw [beq_eq_false_iff_ne];exact xQ
     go_upto_region 9 with (fail);refine ao 9 (aa W) (by kernel_rfl) (by kernel_rfl) (by simp) (ak (ad _)) ?_;simp only [zT]
     iterate 9 (apply ag rfl;(intro W hW;go_simp;with_reducible rfl);simp only [zA])
     intro W2 iv;have rD:=hs.after (hW.after iv);have Ng:=zh (Mp.out.since (hW.after iv));have JO:=zh (Ho.out.since (hW.after iv));have DM : Hid (ls.getD v 0 = x):=Hx.out.symm
     have Qr:=zh (show ¬ ls.getD v 0 = most by rw [DM.out];exact xQ)
     clear a5 a6 a7 a8 b8 b7 f7 cx fx dx d6 d7 hW iv hs
     by_cases pL : made = lim
     ·subst pL
      have zX : Hid (R = ([],3,made)):=by rw [← I6.out];exact yc Mq.out Qr.out
      go_wp2;go_ret
      exact ⟨congrArg (fun r : List Int × Int × Int => Ending.returned (.int .i64 r.2.1)) zX.out.symm,rD,_,by rw [zX.out];exact Ng.out,fun e => by rw [zX.out] at e;cases e⟩
     ·have XT : (made == lim) = false:=by rw [beq_eq_false_iff_ne];exact pL
      have c7:=Ng.out.c7;have f7:=Ng.out.fz 7;have m1 : IntKind.i64.wrap (made + 1) = made + 1:=aL _ (by omega) (by omega);have m2 : IntKind.i64.wrap (x + 1) = x + 1:=aL _ (by omega) (by omega);have m3 : IntKind.i64.wrap ((v : Int) + 1) = (v : Int) + 1:=aL _ (by omega) (by omega);obtain ⟨w3,gY⟩ : ∃ w3,w3 = W2.setCell ⟨B,7,none⟩ (.int .i64 (made + 1)):=⟨_,rfl⟩
      have SW : Hid (AS w3 B ve vi vn s m most lim (made + 1) (.slice (some ⟨g,0,none⟩) n.ends.length c1)):=by rw [gY];exact Ng.out.setS _
      have ms : Hid (Own w3 w0.heap.size (.slice (some ⟨g,0,none⟩) n.ends.length c1) ls):=by rw [gY];exact rG JO.out (by simpa [Value.ownBlock] using I5) _
      have eY : Hid (aa w0 w3):=by rw [gY];exact Below.setCell rD hB _
      have sG:=zh gY;clear gY rD Ng JO;go_upto_region 12 with (fail);rw [← sG.out];clear c7 f7;have c8:=SW.out.c8;have cx:=ms.out.cell (getD_some Mq.out);rw [DM.out] at cx;have fx:=ms.out.free v;obtain ⟨w4,gZ⟩ : ∃ w4,w4 = w3.setCell ⟨g,v,none⟩ (.int .i64 (x + 1)):=⟨_,rfl⟩
      have Ur : Hid (AS w4 B ve vi vn s m most lim (made + 1) (.slice (some ⟨g,0,none⟩) n.ends.length c1)):=by rw [gZ];exact SW.out.other (Ne.symm I5) _ _
      have sH : Hid (Own w4 w0.heap.size (.slice (some ⟨g,0,none⟩) n.ends.length c1) (ls.set v (x + 1))):=by rw [gZ];exact ms.out.set (k:=v) (x + 1)
      have mg : Hid (aa w0 w4):=by rw [gZ];exact Below.setCell eY.out Kc.out _
      have FL:=zh gZ
      have HU : Hid (Up n.ends.length most (ls.set v (x + 1)) v):=by
       have:=pd.out.up hlt Qr.out
       rw [DM.out] at this;exact this
      have Us:=zh sH.out.ints;clear gZ;go_upto_region 13 with (fail);rw [← FL.out];clear c8 cx fx;go_wp2_with fail;refine (G6 ve vi vn _ n s m most lim (made + 1) (ls.set v (x + 1)) B v w4 (H.out.keep mg.out.below) Us.out Ur.out Hn.out hlt hK HU.out).mono ?_;rintro e w5 ⟨rfl,jT⟩;have Dj:=zh (Ur.out.since jT);have DN:=zh (sH.out.keep jT);have nd:=zh (mg.out.trans jT);have pE:=I6.out;rw [Bl Mq.out Qr.out pL,DM.out] at pE;have Ut:=zh pE;clear jT pE;cases iS : eC n (accG n s m) (ls.set v (x + 1)) v
      ·have i_:=zh iS;clear iS;go_wp2;go_roundw
       case rel =>
        refine ⟨f,ls.set v (x + 1),v,made + 1,nd.out,Dj.out,DN.out,by rw [List.length_set];exact zf.out,by omega,by omega,.inl ⟨rfl,by omega,HU.out.stay,?_,?_⟩⟩
        ·have:=jD (N:=n.ends.length) (v:=v) (v':=v) GA pL (by omega)
         have:=Hf.out
         omega
        ·have:=Ut.out
         rw [i_.out] at this;simpa using this
       case measure =>
        rw [Dj.out.c7,Mp.out.c7];simp only [intOf]
        have:=jD (N:=n.ends.length) (v:=v) (v':=v) GA pL (by omega)
        unfold iW at this;omega
      ·have i_:=zh iS;clear iS;go_wp2;go_roundw
       case rel =>
        refine ⟨f,ls.set v (x + 1),v + 1,made + 1,nd.out,Dj.out,DN.out,by rw [List.length_set];exact zf.out,by omega,by omega,.inl ⟨by go_num,by omega,HU.out.on IQ.1,?_,?_⟩⟩
        ·have:=jD (N:=n.ends.length) (v:=v) (v':=v + 1) GA pL (by omega)
         have:=Hf.out
         omega
        ·have:=Ut.out
         rw [i_.out] at this;simpa using this
       case measure =>
        rw [Dj.out.c7,Mp.out.c7];simp only [intOf]
        have:=jD (N:=n.ends.length) (v:=v) (v':=v + 1) GA pL (by omega)
        unfold iW at this;omega
   ·obtain rfl : v = n.ends.length:=by omega
    have zX : Hid (R = (ls,1,made)):=by rw [← I6.out];exact Bk (by rw [zf.out];omega)
    go_wp2;go_ret
    exact ⟨congrArg (fun r : List Int × Int × Int => Ending.returned (.int .i64 r.2.1)) zX.out.symm,hs,_,by rw [zX.out];exact Mp.out,fun _ => by rw [zX.out];exact Ho.out⟩
  ·go_wp2;go_ret
   exact ⟨congrArg (fun r : List Int × Int × Int => Ending.returned (.int .i64 r.2.1)) hR.symm,hs,_,by rw [hR];exact Mp.out,fun e => by rw [hR] at e;cases e⟩
def fG (x : Int) (N j : Nat) : List Value:=List.replicate j (.int .i64 x) ++ List.replicate (N - j) (.int .i64 0)
theorem uI {x : Int} {N j : Nat} (h : j ≤ N) : (fG x N j).length = N:=by simp [fG];omega
theorem pf {x : Int} {N j m : Nat} (h : j + m ≤ N) : splice (fG x N j) j (List.replicate m (.int .i64 x)) = fG x N (j + m):=by
 unfold splice fG
 rw [List.take_append_of_le_length (by simp),List.take_replicate,Nat.min_self,List.length_replicate,List.drop_append,List.drop_replicate,List.length_replicate,List.drop_replicate,show j - (j + m) = 0 by omega,show N - j - (j + m - j) = N - (j + m) by omega,List.replicate_zero,List.nil_append,← List.append_assoc,List.replicate_append_replicate]
theorem Nh {w : World} {base g N : Nat} {x : Int} (h : w.heap[g]? = some (.cells (fG x N N).toArray 3 (0,0))) (hb : base ≤ g) (hN : N ≤ 1000000) : Own w base (.slice (some ⟨g,0,none⟩) N N) (List.replicate N x):=by
 unfold Own
 refine ⟨by simp,.inr ⟨g,N,_,by simp,hb,h,by simp,by unfold maxLen;omega,by simp [fG],?_⟩⟩
 simp [fG]
theorem Bz {w : World} {g N j : Nat} {x : Int} (h : w.heap[g]? = some (.cells (fG x N j).toArray 3 (0,0))) {i : Nat} (hi : i < j) : w.cell? ⟨g,i,none⟩ = some (.int .i64 x):=by
 have : (fG x N j)[i]? = some (.int .i64 x):=by
  unfold fG;rw [List.getElem?_append_left (by simpa using hi)];simp [hi]
 simp [World.cell?,h,this]
theorem Ni {w : World} {b : Nat} {x : Int} (h : w.cell? ⟨b,0,none⟩ = some (.int .i64 x)) {j : Nat} {v : Value} (hj : (List.replicate 1 (Value.int .i64 x))[j]? = some v) : w.cell? ((⟨b,0,none⟩ : Addr).add j) = some v:=by
 have h1:=aq hj;simp at h1
 subst h1;simp at hj
 subst hj;rw [Go.Addr.add_lit];exact h
theorem Kd {w : World} {g N j m : Nat} {x : Int} (h : w.heap[g]? = some (.cells (fG x N j).toArray 3 (0,0))) (hm : m ≤ j) {i : Nat} {v : Value} (hi : (List.replicate m (Value.int .i64 x))[i]? = some v) : w.cell? ((⟨g,0,none⟩ : Addr).add i) = some v:=by
 have h1:=aq hi;rw [List.length_replicate] at h1;rw [List.getElem?_replicate,if_pos h1] at hi;rw [← Option.some.inj hi,Go.Addr.add_lit,Nat.zero_add];exact Bz h (by omega)
theorem lf (b c : Nat) (x : Int) (N : Nat) (w : World) (hN : 1 ≤ N) (G7 : N ≤ 1000000) (hc : w.cell? ⟨b,0,none⟩ = some (.int .i64 x)) :
  Calls Tryz.prog 150 #[.slice (some ⟨b,0,none⟩) 1 c,.int .i64 N] w fun e w' => ∃ u,e = .returned u ∧ Own w' w.heap.size u (List.replicate N x) ∧ Below w.heap.size w w':=by
 have e1 : IntKind.u64.wrap (N : Int) = N:=IntWalk.u64_in _ (by omega);have hm:=Tryz.bits_Mul 1 N (by omega) (by omega) w;rw [show (1 * N / 18446744073709551616 : Nat) = 0 by omega,show (1 * N % 18446744073709551616 : Nat) = N by omega] at hm
 have Hm:=zh hm;have e2 : IntKind.i64.wrap (N : Int) = N:=aL _ (by omega) (by omega);have m2:=rW N G7;have Hc:=zh hc;have SX : ¬ ((N : Int) < 0):=by omega
 have hbig : ¬ (9223372036854775807 < (N : Int)):=by omega
 clear hm hc
 go_enter Tryz.func150,Tryz.ntmps150
 go_wp2_with fail;refine Hm.out.mono ?_;rintro e w1 ⟨rfl,rfl⟩
 have HG2 : Hid ((w1.alloc (.cells (Array.replicate N (Value.int .i64 0)) 3)).heap[w1.heap.size]? = some (.cells (fG x N 0).toArray 3 (0,0))):=by
  show (w1.heap.push _)[w1.heap.size]? = _
  rw [Array.getElem?_push_size];simp [fG]
 go_wp2_with (refine wpList_copy_splice rfl _ _ 25 25 rfl 3 Tryz.underlying25 (by kernel_rfl) (some ⟨w1.heap.size,0,none⟩) (some ⟨b,0,none⟩) N N 1 c rfl rfl w1.heap.size 0 (fG x N 0) 3 HG2.out (List.replicate 1 (.int .i64 x)) (by rw [List.length_replicate];exact (Nat.min_eq_left hN).symm) (fun _ => ⟨rfl,_,rfl,fun j v hj => Ni (bc (au _ _) Hc.out) hj⟩) (by rw [uI (Nat.zero_le _),List.length_replicate];omega) (by simp [Value.oneCell']) w1.heap.size w1 (au _ _) (Nat.le_refl _) ?_;intro w3 ZI bg)
 obtain ⟨g,hg⟩ : ∃ g,g = w1.heap.size:=⟨_,rfl⟩
 have Hg:=zh hg;rw [← hg] at ZI ⊢;clear hg
 have HG3 : Hid (w3.heap[g]? = some (.cells (fG x N 1).toArray 3 (0,0))):=by
  have:=ZI.out
  rw [show List.replicate 1 (Value.int .i64 x) = List.replicate 1 (.int .i64 x) from rfl,pf (by omega)] at this;exact this
 have Mo:=zh bg;clear ZI bg;go_wp2
 go_loopw [8] (fun nv wr => ∃ j : Nat,1 ≤ j ∧ j ≤ N ∧ nv = .int .i64 j ∧ wr.heap[g]? = some (.cells (fG x N j).toArray 3 (0,0)) ∧ Below w1.heap.size w1 wr) (fun nv _ => N - (intOf nv).toNat)
 case atStart => exact ⟨1,Nat.le_refl _,hN,rfl,HG3.out,Mo.out⟩
 case round =>
  obtain ⟨j,sD,hj,rfl,zQ,hb⟩:=hrel;have HG:=zh zQ;have HB:=zh hb;clear zQ hb
  by_cases hlt : j < N
  ·obtain ⟨m,hm⟩ : ∃ m,m = min j (N - j):=⟨_,rfl⟩
   have k9 : 1 ≤ m:=by omega
   have f6 : j + m ≤ N:=by omega
   have Qs : m ≤ j:=by omega
   have hNj : ¬ N = j:=by omega
   have Hmm:=zh hm;clear hm;have m3 : IntKind.i64.wrap ((j : Int) + m) = (j : Int) + m:=aL _ (by omega) (by omega);have cX : aa w1 wr:=HB.out;go_upto_region 9 with (fail);refine ec (w0:=w1) 9 [false,false,false,false,false,false,false,true,true] (by kernel_rfl) (by kernel_rfl) (cX) ?_;simp only [d_,dO,zT]
   iterate 7 (apply bB rfl;(intro W hW;go_simp;with_reducible rfl);simp only [zA])
   obtain ⟨W,dr⟩ : ∃ W,W = World.drew wr:=⟨_,rfl⟩
   rw [← dr]
   have hW : aa w1 W:=by rw [dr];exact ak (cX)
   refine dP (fun Q' HQ => ?_)
   (refine wpList_copy_splice rfl _ _ 25 25 rfl 3 Tryz.underlying25 (by kernel_rfl) (some ⟨g,j,none⟩) (some ⟨g,0,none⟩) (N - j) (N - j) j N (by go_simp) (by go_simp) g j (fG x N j) 3 (by rw [dr];exact HG.out) (List.replicate m (.int .i64 x)) (by rw [List.length_replicate];exact Hmm.out) (fun _ => ⟨rfl,_,rfl,fun i v hi => Kd (by rw [dr];exact HG.out) Qs hi⟩) (by rw [uI hj];simpa using f6) (by simp [Value.oneCell']) w1.heap.size w1 hW (by rw [Hg.out];exact Nat.le_refl _) ?_);intro w4 Bn xV;refine HQ _ _ xV ?_;replace hW : aa w1 w4:=xV;simp only [List.length_replicate,goInt]
   (try simp only [zA])
   refine dA (v:=?_) rfl ?_ hW ?_;rotate_left;(go_simp;with_reducible rfl)
   simp only [zA];simp only [bA]
   have HG4 : Hid (w4.heap[g]? = some (.cells (fG x N (j + m)).toArray 3 (0,0))):=by
    have:=Bn.out
    rw [pf f6] at this;exact this
   have M_:=zh hW;clear Bn xV hW dr cX;go_wp2;go_roundw
   case rel => exact ⟨j + m,by omega,f6,by go_num,HG4.out,M_.out⟩
   case measure => simp [intOf];omega
  ·obtain rfl : j = N:=by omega
   go_wp2;go_ret
   exact ⟨_,rfl,Nh HG.out (by rw [Hg.out];exact Nat.le_refl _) G7,HB.out⟩
end Go.Proofs.YtgmdpppljkmabaaGreat
