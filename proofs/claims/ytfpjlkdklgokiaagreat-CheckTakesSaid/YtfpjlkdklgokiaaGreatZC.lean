/- A part of the proof of CheckTakes. -/
import Derived.Calls
import Derived.Conc.LoneCalls
import Derived.Conc.LoneSelect
import Derived.Conc.LoneSelectN
import Derived.Ground.Names2Prog
import Derived.Ground.SlgfProg
import Derived.Ground.SlgnProg
import Derived.Shelf.SlicesE.Clone
import Derived.Shelf.SlicesE.DeleteFunc
import Derived.Shelf.SlicesE.IndexFunc
import Derived.Shelf.Small.Bits
import Derived.Sort.LotA
import Derived.Sort.WalkA
import Derived.Test.YtfpjlkdklgokiaaGreatZB
namespace Go.Proofs.YtfpjlkdklgokiaaGreat
set_option maxRecDepth 100000
set_option maxHeartbeats 40000000
open Go.RowKit
open Go.Proofs.Tryz
variable {n g k gp gd c gl i id b s r cb mb fb cd h N m fuel j ct p B cap sz gr z gt x aL:Nat} {v c1 c2 c3 c0 c5 c4:Value} {w' W:World} {A D T:Option Addr} {a:Act} {ids q fl l rest:List Nat} {xs fs:List Value} {o oi:Oper} {listed:Array Bool} {P:Program} {e t:TypeId} {args cs' buf:Array Value} {tm:Bool}
namespace Sp
theorem Pm {A B:List (Nat×Bs)} {s:List Bs} {t:Bs} (ht:t.length=512) (hb:b+4<=s.length) (hB:∀x∈B,x.1<b\/b+4<=x.1):
 cM (lay (A++[(b+0,(t.drop 0).take 128),(b+1,(t.drop 128).take 128),(b+2,(t.drop 256).take 128),(b+3,(t.drop 384).take 128)]++B) s) b=t:=by
 generalize hL:lay (A++[(b+0,(t.drop 0).take 128),(b+1,(t.drop 128).take 128),(b+2,(t.drop 256).take 128),(b+3,(t.drop 384).take 128)]++B) s=L;have g0:L[b+0]? =some ((t.drop 0).take 128):=by
  rw[<-hL];have:=oJ A ([(b+1,(t.drop 128).take 128),(b+2,(t.drop 256).take 128),(b+3,(t.drop 384).take 128)]++B) s (b+0) ((t.drop 0).take 128) (by omega) (λx hx=>by
   rcases zz.1 hx with hx | hx
   ·simp at hx;rcases hx with rfl | rfl | rfl<;>simp
   ·have:=hB x hx;omega)
  simpa using this
 have g1:L[b+1]? =some ((t.drop 128).take 128):=by
  rw[<-hL];have:=oJ (A++[(b+0,(t.drop 0).take 128)]) ([(b+2,(t.drop 256).take 128),(b+3,(t.drop 384).take 128)]++B) s (b+1) ((t.drop 128).take 128) (by omega) (λx hx=>by
   rcases zz.1 hx with hx | hx
   ·simp at hx;rcases hx with rfl | rfl<;>simp
   ·have:=hB x hx;omega)
  simpa using this
 have g2:L[b+2]? =some ((t.drop 256).take 128):=by
  rw[<-hL];have:=oJ (A++[(b+0,(t.drop 0).take 128),(b+1,(t.drop 128).take 128)]) ([(b+3,(t.drop 384).take 128)]++B) s (b+2) ((t.drop 256).take 128) (by omega) (λx hx=>by
   rcases zz.1 hx with hx | hx
   ·simp at hx;rw[hx];simp
   ·have:=hB x hx;omega)
  simpa using this
 have g3:L[b+3]? =some ((t.drop 384).take 128):=by
  rw[<-hL];have:=oJ (A++[(b+0,(t.drop 0).take 128),(b+1,(t.drop 128).take 128),(b+2,(t.drop 256).take 128)]) B s (b+3) ((t.drop 384).take 128) (by omega) (λx hx=>by have:=hB x hx;omega);simpa using this
 have hd:(L.drop b).take 4=[(t.drop 0).take 128,(t.drop 128).take 128,(t.drop 256).take 128,(t.drop 384).take 128]:=by
  apply za9;intro k;rw[zT]
  match k with
  | 0=>simpa using g0
  | 1=>simpa using g1
  | 2=>simpa using g2
  | 3=>simpa using g3
  | k+4=>
   rw[zD (by omega)];simp
 unfold cM;rw[hd];simp only[zbk,zbq,za7,List.drop_zero];have e3:(t.drop 384).take 128=t.drop 384:=zX (by simp;omega);have e2:(t.drop 256).take 128++t.drop 384=t.drop 256:=by
  have:=zS 128 (t.drop 256);rwa [za1] at this
 have e1:(t.drop 128).take 128++t.drop 256=t.drop 128:=by
  have:=zS 128 (t.drop 128);rwa [za1] at this
 rw[e3,e2,e1,zS]
theorem Lp (d:Dk) (hlo:d.loose=[]) (hf:d.bk= -1) (at_ base:Nat) (l:List (Nat×Bs)) (hn:(l.map (·.1)).Nodup) (h8:l.length<=8) (hp:∀x∈l,x.2.length=512/\inside d.sure.length at_ base x.1):
 (d.acts (bq at_ base l)).loose=[]/\(d.acts (bq at_ base l)).bk= -1/\(d.acts (bq at_ base l)).sure.length=d.sure.length/\
 (∀x∈l,cM (d.acts (bq at_ base l)).sure (base+x.1*4)=x.2)/\
 ∀q,(∀x∈l,x.1≠q)->at_+33<=base+q*4->base+q*4+4<=d.sure.length->cM (d.acts (bq at_ base l)).sure (base+q*4)=cM d.sure (base+q*4):=by
 have sQ:d.view=d.sure:=by simp[Dk.view,hlo,lay]
 have hw:∃a c,bq at_ base l=(a++aR base l++c)++[.sync]/\(∀x∈ld a,x.1<at_+33)/\(∀x∈ld c,x.1<at_+33):=by
  refine⟨(aR (at_+1) (eO l)++[.sync])++[.wr at_ (jF l),.sync],[.sync,.wr at_ (zeros 128)],by simp[bq],λx hx=>?_,λx hx=>?_⟩
  ·rw[ep,ep] at hx;simp only[ld,za7,zz,zq] at hx;rcases hx with hx | rfl
   ·obtain⟨y,hy,j,hj,e⟩:=fG hx;have:y.1<8:=by
     obtain⟨i,hi,e⟩:=List.getElem_of_mem hy;have hi':i<l.length:=by simpa[eO] using hi
     have h2:=kP l i hi';rw[zk hi,e] at h2;injection h2 with h2;rw[h2];show i<8;omega
    omega
   ·show at_<at_+33;omega
  ·simp[ld] at hx;rw[hx];show at_<at_+33;omega
 obtain⟨a,c,hw,ha,hc⟩:=hw;have hs:=jw d (a++aR base l++c);rw[<-hw,sQ,ep,ep] at hs;have hlen:=mO d (bq at_ base l);refine⟨hs.1,mP d hf _,hlen,λx hx=>?_,λq hq h1 h2=>?_⟩
 ·obtain⟨l1,l2,rfl⟩:=List.append_of_mem hx;obtain⟨ht,hi1,hi2⟩:=hp x hx;rw[hs.2,qM,ep];show cM (lay (ld a++(ld (aR base l1)++ld (eZ base x++aR base l2))++ld c) d.sure) _=_;rw[ep,Ed,WV];have hnd:∀y∈l2,y.1≠x.1:=λy hy e=>by
   rw[zI,zF] at hn;have:=(List.nodup_cons.1 (za3.1 hn).2.1).1;exact this (zn.2 ⟨y,hy,e⟩)
  have:=Pm (A:=ld a++ld (aR base l1)) (B:=ld (aR base l2)++ld c) (s:=d.sure) (b:=base+x.1*4) (t:=x.2) ht hi1 (λy hy=>by
   rcases zz.1 hy with hy | hy
   ·obtain⟨z,hz,j,hj,e⟩:=fG hy;have:=hnd z hz;omega
   ·have:=hc y hy;omega)
  simpa[zh] using this
 ·rw[hs.2];unfold cM
  congr 1
  apply za9;intro k;rw[zT,zT]
  split
  ·rename_i hk;rw[zaf,zaf];refine ia _ _ _ (λx hx=>?_);rcases zz.1 hx with hx | hx
   ·rcases zz.1 hx with hx | hx
    ·have:=ha x hx;omega
    ·obtain⟨z,hz,j,hj,e⟩:=fG hx;have:=hq z hz;omega
   ·have:=hc x hx;omega
  ·rfl
end Sp
section
variable {F D:af} {w:World} {gl gd:Nat} {l:Sp.Lg} {d:Sp.Dk}
def Cs (F D:af) (w:World) (gl gd:Nat) (l':Sp.Lg) (d':Sp.Dk) (e:Ending) (w':World):Prop:=
 ∃D',e=.returned (.int .i64 0)/\cR D' w' gd d'/\dP F w' gl gd l'/\(∀b,D' b->D b\/w.heap.size<=b)/\aa (λb=>F b\/D b) (λb=>F b\/D' b) w w'
theorem CY (h:dP F w gl gd l) (hd:cR D w gd d) (mV:∀b,F b->¬D b) (hlo:d.loose=[]) (MI:d.bk= -1) (hfit:l.at_+l.n<=d.sure.length) (hn:l.next<4611686018427387904) (hl:aL<=l.next) (h1:l.forced<=aL) (h2:l.forced≠l.next):
 Calls prog 53 #[ptr gl,.int .u64 aL] w (Cs F D w gl gd l.Jb (d.acts l.eE)):=by
 have tS:=zH hd.dA;have HLI:=zH h.dA;have HLW:=zH fun(W:World) (d':Sp.Dk) (D':af) (k:Nat) (h:dP F W gl gd l) (hd:cR D' W gd d') (MI:d'.bk≠0) (hlo:d'.loose.length<=1000000) (hs:d'.sure.length=d.sure.length) (hk:Sp.bg l.first<=k) (hk2:k<l.next)=>
  Ih h hd MI hlo (by omega) hn hk hk2
 have HI:=zH h;have HD:=zH hd;obtain⟨hw,bv,sv,h3,h4,h5,h6⟩:=h;obtain⟨c0,c1,c2,c3,c4,c5,c6,c7,c8,c9⟩:=h3.lg;have HM:=zH (gI (w:=w) c0);have HB:=zH fun(W:World)=>iY l.forced (by omega) W;have hff:=hw.ff;have hfn:=hw.fn;have hbm:=Sp.nI hff;have D9:=Sp.kO l.forced;have hstr:=Sp.Lg.S1 hw;have sW:=hw.J6;have d1:decide (l.next<aL)=false:=by rw[ze];omega
 have d2:decide (aL<l.forced)=false:=by rw[ze];omega
 have d3:((l.forced:Int)==(l.next:Int))=false:=by simp;omega
 have HH:=zH (⟨h4,h5,h6⟩:w.ownsRow 0 5 1 bv l.bytes.length (eU l.bytes)/\w.ownsRow 0 24 1 sv l.starts.length (oa l.starts)/\∀b,F b↔b=gl\/bv.ownBlock=some b\/sv.ownBlock=some b);have H3:=zH h3;clear hd c0 c1 c2 c3 c4 c5 c6 c9 h4 h5 h6 h3;go_enter func53,ntmps53;go_wp2_with fail;refine HM.out.mono ?_;rintro e w1 ⟨rfl,hw1⟩;subst w1;go_wp2_with fail;go_quiet (fail);go_wp2_with fail;refine(HB.out _).mono ?_;rintro e w1 ⟨rfl,hw1⟩;subst w1;have hb1:zB w (w.drewN nq):=(aa.refl bM w).drewN _ |>.ei;have HI1:=zH (HI.out.below hb1);have JL:=zH (HD.out.below hb1);have YU:=zH hb1;generalize w.drewN nq=w1 at*;have d8:∀k:Nat,k<l.next->decide (k<l.next)=true:=λk hk=>by rw[zA];exact hk
 clear c7 c8 d1 d2 d3 HM HB;go_wp2_with fail;go_loopw [5,6] (λv5 _ wr=>∃(j:Nat) (D':af),j<=l.strs/\v5=.int .u64 (Sp.bg l.forced+j*110:Nat)/\cR D' wr gd (d.acts (l.dO j))/\aa D D' w1 wr) (λv5 _ _=>l.strs*110+Sp.bg l.forced-(intOf v5).toNat)
 case atStart=>exact⟨0,D,by omega,by simp,JL.out,aa.refl _ _⟩
 case round=>
  obtain⟨j,D',hj,rfl,hDj,Gw⟩:=hrel;have hLj:=HI1.out.turns Gw mV;have HLj:=zH hLj;have c7:wr.cell? ⟨gl,7,none⟩=some (.int .u64 l.next):=by
   obtain⟨_,bv',sv',Y3,_⟩:=hLj;exact Y3.lg.2.2.2.2.2.2.2.1
  have PY:(d.acts (l.dO j)).loose.length<=1000000:=by
   have h1:=Sp.yS d (l.dO j);have h2:(l.dO j).length=j:=by simp[Sp.Lg.dO]
   rw[hlo,h2] at h1;have h3:([]:List (Nat×Sp.Bs)).length=0:=rfl;omega
  have hfu':(d.acts (l.dO j)).bk≠0:=by rw[Sp.mP d MI];decide
  have XK:=Sp.Lg.wu (l:=l) (j:=j) hfn;have HDj:=zH hDj;clear hLj hDj;obtain⟨k,hk⟩:=zE (Sp.bg l.forced+j*110);rw[<-hk] at XK ⊢;by_cases hlt:k<l.next
  ·have hjs:=XK.2 hlt;have dl:decide (k<l.next)=true:=by simpa using hlt
   have uh:IntKind.u64.wrap ((k:Int)+110)=((k+110:Nat):Int):=by rw[IntKind.wrap_u64];omega
   have HW:=zH (HLW.out wr (d.acts (l.dO j)) D' k HLj.out HDj.out hfu' PY (Sp.mO d _) (by omega) hlt);have HK:=zH hk;clear hk;go_wp2_with fail;refine HW.out.mono ?_;rintro e w2 ⟨D2,rfl,hD2,dx⟩;go_wp2_with fail;go_roundw
   case rel=>
    refine⟨j+1,D2,by omega,?_,?_,Gw.trans dx⟩
    ·have:=HK.out;refine congrArg (Value.int IntKind.u64) ?_;omega
    ·rw[Sp.Lg.qV,Sp.qb,<-HK.out];exact hD2
   case measure=>
    have:=HK.out;simp[intOf];omega
  ·have hjs:j=l.strs:=by have:=mt XK.1 hlt;omega
   subst hjs;have dl:decide (k<l.next)=false:=by simpa using hlt
   have c0:wr.cell? ⟨gl,0,none⟩=some (ptr gd):=by
    obtain⟨_,bv',sv',Y3,_⟩:=HLj.out;exact Y3.lg.1
   have HSY:=zH (uB HDj.out hfu' PY);clear hk HLW;go_wp2_with fail;refine HSY.out.mono ?_;rintro e w3 ⟨D3,rfl,hD3,_,gA⟩;have s6:∀b,F b->¬D' b:=λb hF Ad=>by
    rcases Gw.foot b Ad with h | h
    ·exact mV b hF h
    ·have:=HLI.out b hF;have:=YU.out.size;omega
   have hL3:=HLj.out.turns gA s6;have hFD3:∀b,F b->¬D3 b:=λb hF Ad=>by
    rcases gA.foot b Ad with h | h
    ·exact s6 b hF h
    ·have:=HLI.out b hF;have:=YU.out.size;have:=Gw.size;omega
   have XF:=(aa.az YU.out D).trans (Gw.trans gA);obtain⟨_,bv3,sv3,cg,ho3,hs3,h63⟩:=hL3;have VY:=cg.lg.2.2.2.2.2.2.2.1;have f8:=cg.frozen 8;have c8':=cg.lg.2.2.2.2.2.2.2.2.1;have dn:=zH (cg.a_ 8 (.int .u64 (l.next:Int)));have hgb:bv3.ownBlock≠some gl:=dI ho3 cg (by decide);have Qa:sv3.ownBlock≠some gl:=dI hs3 cg (by decide);have ho4:=zH (bH ho3 (w':=w3.setCell ⟨gl,8,none⟩ (.int .u64 (l.next:Int))) (λb hb=>Below.heap_setCell _ _ _ b (λe=>hgb (by rw[hb];exact congrArg some e))));have Gx:=zH (bH hs3 (w':=w3.setCell ⟨gl,8,none⟩ (.int .u64 (l.next:Int))) (λb hb=>Below.heap_setCell _ _ _ b (λe=>Qa (by rw[hb];exact congrArg some e))));have hFg:F gl:=(h63 gl).2 (.inl rfl);have hD4:=zH (hD3.keep (w':=w3.setCell ⟨gl,8,none⟩ (.int .u64 (l.next:Int))) (λb hb=>Below.heap_setCell _ _ _ b (λe=>hFD3 b (by rw[e];exact hFg) hb)));have pV:=zH ((XF.fw (F:=λb=>F b\/D b) (F':=λb=>F b\/D3 b) (λb hb=>.inr hb) (λb hb=>hb.elim (λh=>.inl (.inl h)) .inr)).setCell (p:=⟨gl,8,none⟩) (.inl (.inl hFg)) (.int .u64 (l.next:Int)));have H63:=zH h63;have hDn:=XF.foot;clear cg ho3 hs3 hD3 XF c0 h63 HLj HDj HSY;go_wp2_with fail;go_ret;refine⟨D3,rfl,?_,⟨Sp.Lg.uA hw,bv3,sv3,dn.out,ho4.out,Gx.out,H63.out⟩,hDn,pV.out⟩;have:d.acts l.eE=(d.acts (l.dO l.strs)).synced:=by unfold Sp.Lg.eE;rw[Sp.qb];rfl
   rw[this];exact hD4.out
theorem xS (h:dP F w gl gd l) (hl:aL<=l.next) (h1:aL<l.forced\/l.forced=l.next):
 Calls prog 53 #[ptr gl,.int .u64 aL] w λe w'=>e=.returned (.int .i64 0)/\zB w w':=by
 obtain⟨hw,bv,sv,h3,h4,h5,h6⟩:=h;obtain⟨c0,c1,c2,c3,c4,c5,c6,c7,c8,c9⟩:=h3.lg;have HM:=zH (gI (w:=w) c0);have d1:decide (l.next<aL)=false:=by rw[ze];omega
 clear c0 c1 c2 c3 c4 c5 c6 c9 h4 h5 h6 h3;by_cases hlt:aL<l.forced
 ·have d2:decide (aL<l.forced)=true:=by rw[zA];exact hlt
  go_enter func53,ntmps53;go_wp2_with fail;refine HM.out.mono ?_;rintro e w1 ⟨rfl,hw1⟩;subst w1;go_wp2_with fail;go_ret;exact⟨rfl,Below.refl _ _⟩
 ·have d2:decide (aL<l.forced)=false:=by rw[ze];exact hlt
  have hnf:l.forced=l.next:=h1.resolve_left hlt;rw[hnf] at c8 d2;clear hnf h1 hlt;go_enter func53,ntmps53;go_wp2_with fail;refine HM.out.mono ?_;rintro e w1 ⟨rfl,hw1⟩;subst w1;go_wp2_with fail;go_quiet (fail);go_wp2_with fail;go_ret;exact⟨rfl,((aa.refl bM w).drewN _).ei⟩
theorem Az (h:dP F w gl gd l) (hl:l.next<aL):
 Calls prog 53 #[ptr gl,.int .u64 aL] w λe w'=>e=.returned (.int .i64 2)/\zB w w':=by
 obtain⟨hw,bv,sv,h3,h4,h5,h6⟩:=h;obtain⟨c0,c1,c2,c3,c4,c5,c6,c7,c8,c9⟩:=h3.lg;have HM:=zH (gI (w:=w) c0);have d1:decide (l.next<aL)=true:=by rw[zA];exact hl
 clear c0 c1 c2 c3 c4 c5 c6 c9 h4 h5 h6 h3;go_enter func53,ntmps53;go_wp2_with fail;refine HM.out.mono ?_;rintro e w1 ⟨rfl,hw1⟩;subst w1;go_wp2_with fail;go_ret;exact⟨rfl,Below.refl _ _⟩
end
section
open Go.Maps
def dV (P:Program) (k e:TypeId) (w:World) (b m:Nat) (lk:Nat->Option Nat):Prop:=
 ∃D:DataW Unit,w.ownsMap P k (plainElem P e) b m D/\size D=m/\
  ∀p,(∀i,lk p=some i->has D (fH p)=true/\∀z,D.atKey (fH p) z=.lit (.int .i64 (i:Int)))/\(lk p=none->has D (fH p)=false)
section
variable {P:Program} {k e t:TypeId} {w w':World} {b m:Nat} {lk:Nat->Option Nat}
theorem Mh {R:Value->Option (DataW Unit×List MemPlace)} {D:DataW Unit} (h:w.ownsMap P k R b n D):w.ownsMap P k R b (size D) D:=by
 obtain⟨es,clock,hb,F,_,rfl⟩:=h;refine⟨es,clock,hb,F,?_,rfl⟩;simp[Maps.size,length_sorted]
theorem dV.lt (h:dV P k e w b m lk):b<w.heap.size:=by obtain⟨D,h1,_⟩:=h;exact World.ownsMap.lt h1
theorem dV.keep (h:dV P k e w b m lk) (hk:w'.heap[b]? =w.heap[b]?):dV P k e w' b m lk:=by
 obtain⟨D,⟨es,clock,h1,rest⟩,h2⟩:=h;exact⟨D,⟨es,clock,hk.trans h1,rest⟩,h2⟩
theorem dV.kept {row:Option Nat} (h:dV P k e w b m lk) (hg:w.grownBy w' row) (hne:some b≠row):dV P k e w' b m lk:=h.keep (hg.block b h.lt hne)
theorem dV.alloc (h:dV P k e w b m lk) (o:Obj):dV P k e (w.alloc o) b m lk:=h.keep (Below.heap_alloc w o b h.lt)
theorem dV.drew (h:dV P k e w b m lk):dV P k e w.drew b m lk:=h.keep rfl
theorem dV.congr {lk':Nat->Option Nat} (h:dV P k e w b m lk) (he:∀p,lk' p=lk p):dV P k e w b m lk':=by
 have:lk'=lk:=funext he;rw[this];exact h
theorem dV.made (w:World):dV P k e (w.alloc (.map #[] 0)) w.heap.size 0 (λ_=>none):=
 ⟨.map [],World.ownsMap_made w P k _,rfl,λp=>⟨λi h=>by simp at h,λ_=>rfl⟩⟩
theorem rI (he:P.underlying e=some (.int .i64)) {i:Int} {ps:List MemPlace} (h:plainElem (H:=Unit) P e v=some (.lit (.int .i64 i),ps)):v=.int .i64 i:=by
 obtain⟨a,rfl,hz,_⟩:=plainElem_int_inv he h;simp only[Prod.mk.injEq,DataW.lit.injEq,Lit.int.injEq,true_and] at hz;rw[hz.1]
theorem dV.look (h:dV P k e w b m lk) (hk:P.underlying k=some (.int .u32)) (he:P.underlying e=some (.int .i64)) (ht:P.underlying t=some (.map k e)) (hz:(zeroValue e).run P w=.ok (.int .i64 0) w) (hp:p<4294967296) (hi:lk p=some i):
 (Instr.lookup t (.map (some b)) (.int .u32 (p:Int)) false).run P w=.ok (.int .i64 (i:Int)) w:=by
 obtain⟨D,h1,_,h3⟩:=h;obtain⟨v,ps,hrun,hv⟩:=World.ownsMap.lookup h1 (int_keyed hk) ht hz (plainElem_int he (by decide)) (keyOf_int_mk hk (mX hp));rw[((h3 p).1 i hi).2] at hv;rw[hrun,rI he hv]
theorem dV.look_ok (h:dV P k e w b m lk) (hk:P.underlying k=some (.int .u32)) (he:P.underlying e=some (.int .i64)) (ht:P.underlying t=some (.map k e)) (hz:(zeroValue e).run P w=.ok (.int .i64 0) w) (hp:p<4294967296):
 (Instr.lookup t (.map (some b)) (.int .u32 (p:Int)) true).run P w=.ok (.tuple #[.int .i64 (((lk p).getD 0:Nat):Int),.bool (lk p).isSome]) w:=by
 obtain⟨D,h1,_,h3⟩:=h;obtain⟨v,ps,hrun,hv⟩:=World.ownsMap.look_ok h1 (int_keyed hk) ht hz (plainElem_int he (by decide)) (keyOf_int_mk hk (mX hp))
 cases hl:lk p with
 | none=>
  rw[(h3 p).2 hl] at hrun;rw[atKey_of_not_has ((h3 p).2 hl)] at hv;rw[hrun,rI he hv];rfl
 | some i=>
  rw[((h3 p).1 i hl).1] at hrun;rw[((h3 p).1 i hl).2] at hv;rw[hrun,rI he hv];rfl
def BK (lk:Nat->Option Nat) (p i:Nat):Nat->Option Nat:=λq=>if q=p then some i else lk q
def BL (lk:Nat->Option Nat) (p:Nat):Nat->Option Nat:=λq=>if q=p then none else lk q
theorem dV.put (h:dV P k e w b m lk) (hk:P.underlying k=some (.int .u32)) (he:P.underlying e=some (.int .i64)) (ht:P.underlying t=some (.map k e)) (hm:m<1000000000) (hp:p<4294967296) (hi:i<9223372036854775808) (hn:lk p=none):
 ∃w',(Instr.mapUpdate t (.map (some b)) (.int .u32 (p:Int)) (.int .i64 (i:Int))).run P w=.ok () w'/\dV P k e w' b (m+1) (BK lk p i)/\w.grownBy w' (some b):=by
 obtain⟨D,h1,h2,h3⟩:=h;have hwf:(Lit.int .i64 (i:Int)).wf=true:=by
  have e1:IntKind.i64.min= -9223372036854775808:=rfl;have e2:IntKind.i64.max=9223372036854775807:=rfl;simp[Lit.wf,e1,e2];omega
 obtain⟨w',r1,r2,r3⟩:=World.ownsMap.update h1 (int_keyed hk) ht (by unfold maxLen;omega) (keyOf_int_mk hk (mX hp)) (plainElem_int he hwf);have hT:=World.ownsMap.tidy h1 (int_keyed hk);refine⟨w',r1,⟨_,r2,?_,λq=>?_⟩,r3⟩
 ·rw[size_put hT,(h3 p).2 hn,h2];rfl
 ·by_cases hq:q=p
  ·subst hq;simp only[BK,zK];refine⟨λj hj=>?_,λhc=>by cases hc⟩;injection hj with hj;subst hj;exact⟨has_put_same hT.isMap (iC q) _,λz=>atKey_put_same hT.isMap (iC q) _ z⟩
  ·have hne:fH q≠fH p:=λe=>hq (ou e);simp only[BK,zD hq];refine⟨λj hj=>?_,λhc=>?_⟩
   ·rw[has_put_other hne];exact⟨((h3 q).1 j hj).1,λz=>by rw[atKey_put_other hne];exact((h3 q).1 j hj).2 z⟩
   ·rw[has_put_other hne];exact(h3 q).2 hc
theorem dV.del (h:dV P k e w b m lk) (hk:P.underlying k=some (.int .u32)) (ht:P.underlying t=some (.map k e)) (hp:p<4294967296) (hi:lk p=some i) (ty:TypeId):
 ∃w',(Builtin.delete_ #[t,k] ty #[.map (some b),.int .u32 (p:Int)]).run P w=.ok (.tuple #[]) w'/\dV P k e w' b (m-1) (BL lk p)/\w.grownBy w' (some b):=by
 obtain⟨D,h1,h2,h3⟩:=h;obtain⟨w',r1,r2,r3⟩:=World.ownsMap.drop h1 (int_keyed hk) ht (keyOf_int_mk hk (mX hp)) ty;have hT:=World.ownsMap.tidy h1 (int_keyed hk);have hs:=size_del (D:=D) (k:=fH p) hT;rw[((h3 p).1 i hi).1,zK rfl,h2] at hs;have r4:=Mh r2;have hs':size (D.del (fH p))=m-1:=by omega
 rw[hs'] at r4;refine⟨w',r1,⟨_,r4,hs',λq=>?_⟩,r3.grown⟩;by_cases hq:q=p
 ·subst hq;simp only[BL,zK];exact⟨λj hj=>(by cases hj),λ_=>has_del_same⟩
 ·have hne:fH q≠fH p:=λe=>hq (ou e);simp only[BL,zD hq];refine⟨λj hj=>?_,λhc=>?_⟩
  ·rw[has_del_other hne];exact⟨((h3 q).1 j hj).1,λz=>by rw[atKey_del_other hne];exact((h3 q).1 j hj).2 z⟩
  ·rw[has_del_other hne];exact(h3 q).2 hc
end
end
section
open Go.Conc
def DZ (P:Program) (c:Code) (Q:Exit->Act->World->Prop) (a:Act) (w:World):Prop:=
 ∀(b:Frame) (k:List Item) (cs:List Frame),b.kind≠.early->
  ∃e a' w',Q e a' w'/\Arrives P (lone (b.at a (.code c::k)) cs w) b k cs e a' w'
section
variable {P:Program} {Q:Exit->Act->World->Prop} {a:Act} {w:World}
theorem fF {c:Code} (h:c.wp P Q a w):DZ P c Q a w:=λb k cs _=>h b k cs
theorem f_ {x y:Code} (h:DZ P x (Exit.then (DZ P y Q) Q) a w):DZ P (Code.seq x y) Q a w:=by
 intro b k cs hb;obtain⟨e,a₁,w₁,hq,ew⟩:=h b (.code y::k) cs hb
 cases e with
 | normal=>
  obtain⟨e₂,a₂,w₂,qL,j3⟩:=hq b k cs hb;exact⟨e₂,a₂,w₂,qL,.of_steps (.head step_seq ew) j3⟩
 | exit id=>exact⟨_,a₁,w₁,hq,.of_steps (.one step_seq) (.pass (x:=.code y) rfl (λ_ _=>.inl (by simp)) ew)⟩
 | goto l=>exact⟨_,a₁,w₁,hq,.of_steps (.one step_seq) (.pass (x:=.code y) rfl (λ_ _=>.inl (by simp)) ew)⟩
 | ret=>exact⟨_,a₁,w₁,hq,.of_steps (.one step_seq) (.pass (x:=.code y) rfl (λ_ _=>.inl (by simp)) ew)⟩
 | panic ch=>exact⟨_,a₁,w₁,hq,.of_steps (.one step_seq) (.pass (x:=.code y) rfl (λ_ _=>.inl (by simp)) ew)⟩
 | outgrown=>exact⟨_,a₁,w₁,hq,.of_steps (.one step_seq) (.pass (x:=.code y) rfl (λ_ _=>.inl (by simp)) ew)⟩
theorem bf {x y:Code} (h:∀K:Act->World->Prop,(∀a w,DZ P y Q a w->K a w)->x.wp P (Exit.then K Q) a w):DZ P (Code.seq x y) Q a w:=
 f_ (fF (h _ λ_ _ h=>h))
theorem NZ {c:Operand} {x y:Code} {t:Bool} (hc:a.eval c=.bool t) (h:DZ P (if t then x else y) Q a w):DZ P (Code.cond c x y) Q a w:=
 λb k cs hb=>let ⟨e,a',w',q,r⟩:=h b k cs hb;⟨e,a',w',q,.of_steps (.one (step_cond hc)) r⟩
theorem h_ {c:Code} (h:DZ P c (Exit.inBlock id Q) a w):DZ P (Code.block id c) Q a w:=by
 intro b k cs hb;obtain⟨e,a₁,w₁,hq,ew⟩:=h b (.inBlock id::k) cs hb
 cases e with
 | normal=>exact⟨.normal,a₁,w₁,hq,.head step_block (Steps.trans ew (.one step_inBlock))⟩
 | exit id'=>
  by_cases hid:id'=id
  ·simp only[Exit.inBlock,hid,if_true] at hq;exact⟨.normal,a₁,w₁,hq,.head step_block (ew k (by simp[exitTo,hid]))⟩
  ·simp only[Exit.inBlock,hid,if_false] at hq;refine⟨.exit id',a₁,w₁,hq,λk' hk=>.head step_block (ew k' ?_)⟩;have:(id==id')=false:=by simp;exact λh=>hid h.symm
   simp[exitTo,this,hk]
 | goto l=>exact⟨_,a₁,w₁,hq,λk' hk=>.head step_block (ew k' (by simp[gotoIn,hk]))⟩
 | ret=>exact⟨_,a₁,w₁,hq,.of_steps (.one step_block) ew⟩
 | panic ch=>exact⟨_,a₁,w₁,hq,.of_steps (.one step_block) ew⟩
 | outgrown=>exact⟨_,a₁,w₁,hq,.of_steps (b:=b) (k:=k) (cs:=cs) (e:=.outgrown) (.one step_block) ew⟩
theorem Ef {c:Code} (I:Act->World->Prop) (μ:Act->World->Nat) (h₀:I a w)
 (round:∀a w,I a w->DZ P c (Exit.then (λa' w'=>I a' w'/\μ a' w'<μ a w) Q) a w):DZ P (Code.loop c) Q a w:=by
 intro b k cs hb;have key:∀n a w,μ a w=n->I a w->
  ∃e a' w',Q e a' w'/\Arrives P (lone (b.at a (.code c:: .inLoop c::k)) cs w) b k cs e a' w':=by
  intro n
  induction n using Nat.strongRecOn with
  | _ n ih=>
   intro a w hn hI;obtain⟨e,a₁,w₁,hq,ew⟩:=round a w hI b (.inLoop c::k) cs hb
   cases e with
   | normal=>
    obtain⟨hI₁,hlt⟩:=hq;obtain⟨e₂,a₂,w₂,qL,j3⟩:=ih (μ a₁ w₁) (hn▸hlt) a₁ w₁ rfl hI₁;exact⟨e₂,a₂,w₂,qL,.of_steps (Steps.trans ew (.one step_inLoop)) j3⟩
   | exit id=>exact⟨_,a₁,w₁,hq,.pass (x:=.inLoop c) rfl (λ_ _=>.inl (by simp)) ew⟩
   | goto l=>exact⟨_,a₁,w₁,hq,.pass (x:=.inLoop c) rfl (λ_ _=>.inl (by simp)) ew⟩
   | ret=>exact⟨_,a₁,w₁,hq,.pass (x:=.inLoop c) rfl (λ_ _=>.inl (by simp)) ew⟩
   | panic ch=>exact⟨_,a₁,w₁,hq,.pass (x:=.inLoop c) rfl (λ_ _=>.inl (by simp)) ew⟩
   | outgrown=>exact⟨_,a₁,w₁,hq,.pass (x:=.inLoop c) rfl (λ_ _=>.inl (by simp)) ew⟩
 obtain⟨e,a',w',hq,ew⟩:=key _ a w rfl h₀;exact⟨e,a',w',hq,.of_steps (.one step_loop) ew⟩
theorem iL {f:FuncId} {fn:Func} {c:Code} {w:World} {R:Ending->World->Prop}
 (hf:P.funcs[f]? =some fn) (hb:fn.body=some c)
 (h:DZ P c (bodyPost P fn R) {tmps:=args++Array.replicate (fn.ntmps-args.size) undef,defers:=[]} w):
 Calls P f args w R:=by
 intro cs
 let b:Frame:={(default:Frame) with fn:=f,kind:=.normal}
 have Yz:Frame.enter P f args .normal=
  b.at {tmps:=args++Array.replicate (fn.ntmps-args.size) undef,defers:=[]} [.code c]:=by
  simp[Frame.enter,Frame.at,hf,hb,b]
 obtain⟨e,a',w',hq,ew⟩:=h b [] cs (by simp[b]);rw[<-Yz] at ew
 cases e with
 | normal=>
  obtain⟨hd,v,hr,hR⟩:=hq;exact⟨.returned v,w',_,hR,Steps.trans ew (.one step_end),rfl,rfl,hd,rfl,fn,hf,hr⟩
 | ret=>
  obtain⟨hd,v,hr,hR⟩:=hq;obtain⟨todo,hs⟩:=ew;exact⟨.returned v,w',_,hR,hs,rfl,rfl,hd,rfl,fn,hf,hr⟩
 | panic chain=>
  obtain⟨hd,hR⟩:=hq;obtain⟨todo,hs⟩:=ew;exact⟨.panicked chain,w',_,hR,hs,rfl,rfl,hd,fn,hf⟩
 | exit id=>exact hq.elim
 | goto l=>exact hq.elim
 | outgrown=>exact⟨.outgrown,w',b,hq,ew.resolve_left (by simp[b]),rfl,trivial⟩
def wR (P:Program) (ops:Array Oper) (Q:Exit->Act->World->Prop) (rest:List Nat) (a:Act) (w:World):Prop:=
 ∀(b:Frame) (k:List Item) (cs:List Frame),b.kind≠.early->∃e a' w',Q e a' w'/\Arrives P (lone (b.at a (.inRegion ops rest::k)) cs w) b k cs e a' w'
variable {ops:Array Oper} {rest:List Nat}
theorem gV (h:wR P ops Q (List.range ops.size) a w):DZ P (Code.region id ops false) Q a w:=
 λb k cs hb=>let ⟨e,a',w',q,r⟩:=h b k cs hb;⟨e,a',w',q,.of_steps (.one step_region) r⟩
theorem nM (h:Q .normal a w):wR P ops Q [] a w:=λ_ _ _ _=>⟨.normal,a,w,h,.one step_region_end⟩
theorem cB (i:Nat) (t:Tmp) (hi:ops[i]? =some o) (hd:o.dst=some t) (hw:Region.wanted o (yielded ops a.tmps)=true) (hy:(execOp a.eval o).run P w=.ok (.value v) w')
 (h:wR P ops Q rest {tmps:=a.tmps.setIfInBounds t v,defers:=a.defers} w'):wR P ops Q (i::rest) a w:=by
 intro b k cs hb;obtain⟨e,a',w'',hq,ew⟩:=h b k cs hb;have hg:=stepG_op (P:=P) (b:=b) (k:=k) (cs:=cs) (w:=w) (rest:=rest) hi hw;have oM:(b.at a (.inRegion ops (i::rest)::k)).finish v=b.at {tmps:=a.tmps.setIfInBounds t v,defers:=a.defers} (.inRegion ops rest::k):=by
  rw[Frame.finish_at,hi];simp only[Option.bind_some,hd,Act.put]
 refine⟨e,a',w'',hq,.of_steps (.one (step_lone_go ?_)) ew⟩;rw[hg,<-oM];simp[stepG.apply,hy]
theorem JA (i:Nat) {z:Value} (hi:ops[i]? =some o) (hd:o.dst=none) (hw:Region.wanted o (yielded ops a.tmps)=true)
 (hy:(execOp a.eval o).run P w=.ok (.comm #[scase c v z] true .send) w') (hc:w'.heap[c]? =some (.chan cap buf false s r tm)) (hroom:buf.size<cap)
 (h:wR P ops Q rest a (w'.setChan c cap (buf.push v) false (s+1) r tm)):wR P ops Q (i::rest) a w:=by
 intro b k cs hb;obtain⟨e,a',w'',hq,ew⟩:=h b k cs hb;have hs:=step_lone_send_room (stepG_comm (P:=P) (b:=b) (k:=k) (cs:=cs) (rest:=rest) (main:=true) hi hw hb hy) hc hroom;rw[Frame.finish_at,hi,Option.bind_some,hd] at hs;exact⟨e,a',w'',hq,.of_steps (.one hs) ew⟩
theorem Zh (i:Nat) (t:Tmp) {z:Value} {closed:Bool} (hi:ops[i]? =some o) (hd:o.dst=some t) (hw:Region.wanted o (yielded ops a.tmps)=true)
 (hy:(execOp a.eval o).run P w=.ok (.comm #[rcase c z] true (.recv false)) w') (hc:w'.heap[c]? =some (.chan cap buf closed s r tm)) (hsome:0<buf.size)
 (h:wR P ops Q rest {tmps:=a.tmps.setIfInBounds t (buf.getD 0 undef),defers:=a.defers} (w'.setChan c cap (buf.extract 1 buf.size) closed s (r+1) tm)):wR P ops Q (i::rest) a w:=by
 intro b k cs hb;obtain⟨e,a',w'',hq,ew⟩:=h b k cs hb;have hs:=step_lone_recv_buf false (stepG_comm (P:=P) (b:=b) (k:=k) (cs:=cs) (rest:=rest) (main:=true) hi hw hb hy) hc hsome;rw[Frame.finish_at,hi,Option.bind_some,hd] at hs;exact⟨e,a',w'',hq,.of_steps (.one hs) ew⟩
theorem qY (i:Nat) (t:Tmp) {z:Value} {closed:Bool} (hi:ops[i]? =some o) (hd:o.dst=some t) (hw:Region.wanted o (yielded ops a.tmps)=true)
 (hy:(execOp a.eval o).run P w=.ok (.comm #[rcase c z] false .select) w') (hc:w'.heap[c]? =some (.chan cap buf closed s r tm)) (hsome:0<buf.size)
 (h:wR P ops Q rest {tmps:=a.tmps.setIfInBounds t (.tuple #[goInt 0,.bool true,buf.getD 0 undef]),defers:=a.defers} (w'.setChan c cap (buf.extract 1 buf.size) closed s (r+1) tm)):wR P ops Q (i::rest) a w:=by
 intro b k cs hb;obtain⟨e,a',w'',hq,ew⟩:=h b k cs hb;have hs:=step_lone_select_recv_buf (stepG_comm (P:=P) (b:=b) (k:=k) (cs:=cs) (rest:=rest) (main:=true) hi hw hb hy) hc hsome;rw[Frame.finish_at,hi,Option.bind_some,hd] at hs;exact⟨e,a',w'',hq,.of_steps (.one hs) ew⟩
theorem mQ (i:Nat) (t:Tmp) {z:Value} (hi:ops[i]? =some o) (hd:o.dst=some t) (hw:Region.wanted o (yielded ops a.tmps)=true)
 (hy:(execOp a.eval o).run P w=.ok (.comm #[rcase c z] false .select) w') (hc:w'.heap[c]? =some (.chan cap #[] false s r tm))
 (h:wR P ops Q rest {tmps:=a.tmps.setIfInBounds t (.tuple #[goInt (-1),.bool false,z]),defers:=a.defers} w'):wR P ops Q (i::rest) a w:=by
 intro b k cs hb;obtain⟨e,a',w'',hq,ew⟩:=h b k cs hb;have hs:=step_lone_select_default (stepG_comm (P:=P) (b:=b) (k:=k) (cs:=cs) (rest:=rest) (main:=true) hi hw hb hy) hc;rw[Frame.finish_at,hi,Option.bind_some,hd] at hs;exact⟨e,a',w'',hq,.of_steps (.one hs) ew⟩
end
end
open Go.RowKit
namespace Sp
structure It where
 page:Pg
 pins:Nat
 aK:Bool
 from_:Nat
 idx:Nat
structure Pl where
 n:Nat
 items:List It
 free:List Nat
def Pl.find (p:Pl) (id:Nat):Option It:=p.items.find? (λit=>it.page.id==id)
def Pl.lk (p:Pl):Nat->Option Nat:=λid=>(p.find id).map (·.idx)
structure Pl.wf (p:Pl):Prop where
 n1:1<=p.n
 rV:p.n<=64
 idx:(p.free++p.items.map (·.idx)).Perm (List.range p.n)
 ids:(p.items.map (·.page.id)).Nodup
 pg:∀it∈p.items,it.page.wf/\it.page.may
 small:∀it∈p.items,it.pins<=1000000000/\it.from_<18446744073709551616
end Sp
def aQ (it:Sp.It) (A:Option Addr) (c:Nat):List Value:=
 [.int .u8 it.page.kind,.int .u8 it.page.level,.int .u32 it.page.id,.int .u64 it.page.aL,.int .u32 it.page.next,.slice A it.page.rows.length c,.int .i64 it.pins,.bool it.aK,.int .u64 it.from_]
def cu:List Value:=[.int .u8 0,.int .u8 0,.int .u32 0,.int .u64 0,.int .u32 0,.slice none 0 0,.int .i64 0,.bool false,.int .u64 0]
abbrev bl (gd gl at_ base fb n cb mb:Nat) (v:Value):Array Value:=
 #[ptr gd,ptr gl,.int .i64 at_,.int .i64 base,.slice (some ⟨fb,0,none⟩) n n,.chan (some cb),.map (some mb),v]
structure UF (R:af) (w:World) (fb:Nat) (p:Sp.Pl) (cs:Array Value):Prop where
 blk:aj w fb 213 cs
 size:cs.size=p.n*9
 item:∀it∈p.items,∃A c,cO A/\aA R w A it.page.rows/\∀j,j<9->cs[it.idx*9+j]? =(aQ it A c)[j]?
 free:∀i∈p.free,∀j,j<9->cs[i*9+j]? =cu[j]?
structure aH (F R:af) (w:World) (gp gd gl at_ base fb cb mb:Nat) (v:Value) (s r:Nat) (cs:Array Value) (fl ids:List Nat) (p:Sp.Pl):Prop where
 wf:p.wf
 blk:aj w gp 218 (bl gd gl at_ base fb p.n cb mb v)
 fr:UF R w fb p cs
 chan:w.heap[cb]? =some (.chan p.n (fl.map fun(i:Nat)=>Value.int .i64 (i:Int)).toArray false s r false)
 map:dV prog 61 3 w mb p.items.length p.lk
 row:w.ownsRow 0 61 1 v ids.length (ids.map fun(i:Nat)=>Value.int .u32 (i:Int))
 foot:F gp/\F fb/\F cb/\F mb/\∀b,v.ownBlock=some b->F b
 rows:∀b,R b->F b/\b≠gp/\b≠fb/\b≠cb/\b≠mb/\v.ownBlock≠some b
 lt:∀b,F b->b<w.heap.size
def gY (F:af) (w:World) (gp gd gl at_ base:Nat) (p:Sp.Pl):Prop:=
 ∃R fb cb mb v s r cs,aH F R w gp gd gl at_ base fb cb mb v s r cs p.free (p.items.map (·.page.id)) p
theorem UF.keep {R:af} {w:World} {p:Sp.Pl} {cs:Array Value} (h:UF R w fb p cs) (hs:w.heap.size<=w'.heap.size) (hf:w'.heap[fb]? =w.heap[fb]?) (hk:∀b,R b->w'.heap[b]? =w.heap[b]?):UF R w' fb p cs:=
 ⟨h.blk.keep hf,h.size,λit hit=>by
  obtain⟨A,c,hA,hR,hc⟩:=h.item it hit;exact⟨A,c,hA,hR.keep hs hk,hc⟩,h.free⟩
theorem aH.keep {F R:af} {w:World} {at_ base:Nat} {cs:Array Value} {p:Sp.Pl} (h:aH F R w gp gd gl at_ base fb cb mb v s r cs fl ids p) (hs:w.heap.size<=w'.heap.size)
 (hk:∀b,F b->w'.heap[b]? =w.heap[b]?):aH F R w' gp gd gl at_ base fb cb mb v s r cs fl ids p:=by
 obtain⟨f1,f2,f3,f4,f5⟩:=h.foot;refine⟨h.wf,h.blk.keep (hk _ f1),h.fr.keep hs (hk _ f2) (λb hb=>hk b (h.rows b hb).1),(hk _ f3).trans h.chan,h.map.keep (hk _ f4),⟨h.row.1,?_⟩,h.foot,h.rows,λb hb=>zf (h.lt b hb) hs⟩;rcases h.row.2 with h' | ⟨b,cap,cur,rfl,hb,hh,rest⟩
 ·exact .inl h'
 ·exact .inr ⟨b,cap,cur,rfl,hb,(hk b (f5 b rfl)).trans hh,rest⟩
theorem gY.keep {F:af} {w:World} {at_ base:Nat} {p:Sp.Pl} (h:gY F w gp gd gl at_ base p) (hs:w.heap.size<=w'.heap.size) (hk:∀b,F b->w'.heap[b]? =w.heap[b]?):gY F w' gp gd gl at_ base p:=by
 obtain⟨R,fb,cb,mb,v,s,r,cs,h⟩:=h;exact⟨R,fb,cb,mb,v,s,r,cs,h.keep hs hk⟩
theorem gY.lt {F:af} {w:World} {at_ base:Nat} {p:Sp.Pl} (h:gY F w gp gd gl at_ base p):∀b,F b->b<w.heap.size:=by
 obtain⟨R,fb,cb,mb,v,s,r,cs,h⟩:=h;exact h.lt
theorem gY.below {F:af} {w:World} {at_ base:Nat} {p:Sp.Pl} (h:gY F w gp gd gl at_ base p) (hb:zB w w'):gY F w' gp gd gl at_ base p:=
 h.keep hb.size (λb hF=>hb.block b (h.lt b hF))
theorem gY.wf {F:af} {w:World} {at_ base:Nat} {p:Sp.Pl} (h:gY F w gp gd gl at_ base p):p.wf:=by
 obtain⟨R,fb,cb,mb,v,s,r,cs,h⟩:=h;exact h.wf
def rZ:Value:=.agg cu.toArray
theorem wG:(prog.info? 213).map (λi=>(i.zero,i.size,i.bytes))=some (some rZ,9,72):=by kernel_rfl
theorem Mt:(prog.info? 3).map (λi=>(i.zero,i.size,i.bytes))=some (some (.int .i64 0),1,8):=by kernel_rfl
theorem Tt (n j:Nat) (i:Nat) (hi:i<n) (hj:j<9):(madeCells rZ.cells (n*9))[i*9+j]? =cu[j]? :=by
 unfold madeCells;have e:rZ.cells=cu.toArray:=rfl;have hlt:i*9+j<n*9:=by omega
 have hm:(i*9+j)%9=j:=by omega
 rw[e];simp only[cu,zV,zP,zap,Nat.reduceAdd];simp[hlt,hm]
 match j,hj with
 | 0,_ | 1,_ | 2,_ | 3,_ | 4,_ | 5,_ | 6,_ | 7,_ | 8,_=>rfl
section
open Go.Shelf
def _root_.Go.Proofs.Tryz.qj:Go.Shelf.Ren:=⟨fun | 41=>202 | n=>n,fun | 22=>62 | 23=>9 | 4=>4 | n=>n,fun | n=>n⟩
theorem _root_.Go.Proofs.Tryz.nR:Go.Proofs.SlLaysE0.n41 prog Tryz.qj:={
 mixed:=by kernel_rfl
 f41:=⟨f202.name,by decide,func202.trans (congrArg some (by kernel_rfl))⟩
 t4:=underlying4
 a4:=Tryz.isAgg4
 z4:=sizeOf4
 v4:=zeroValue4
 t22:=underlying62
 a22:=Tryz.isAgg62
 z22:=sizeOf62
 v22:=zeroValue62}
open Go.RowKit Go.Lib in
theorem _root_.Go.Proofs.Tryz.lA (i0:TypeInfo) (z:Value) (size bytes:Nat) (hi:prog.info? 9=some i0) (hz0:i0.zero=some z) (hz1:i0.size=size) (hz2:i0.bytes=bytes) (hzs:z.cells.size=size) (hsz:0<size) (z23:∀w,(Go.sizeOf 9).run prog w=.ok size w) (b off n c:Nat) (news:List Value) (w:World) (hl:news.length=n*size) (hn:n<=maxLen) (hbig:n*bytes<=140737488355328) (hc:∀j u,news[j]? =some u->w.cell? ⟨b,off+j,none⟩=some u) (h1:∀u∈news,u.oneCell'=true):
 Calls prog 202 #[.slice (some ⟨b,off,none⟩) n c] w λe w'=>∃v',e=.returned v'/\w'.ownsRow w.heap.size 9 size v' n news/\v'≠.slice none 0 0/\zB w w':=AnyE.slices_Clone Tryz.nR i0 z size bytes hi hz0 hz1 hz2 hzs hsz z23 b off n c news w hl hn hbig hc h1
open Go.RowKit Go.Lib in
theorem _root_.Go.Proofs.Tryz.nZ (n c:Nat) (w:World):
 Calls prog 202 #[.slice none n c] w λe w'=>e=.returned (.slice none 0 0)/\w'=w:=AnyE.slices_Clone_nil Tryz.nR n c w
def _root_.Go.Proofs.Tryz.sL:Go.Shelf.Ren:=⟨fun | 6=>246 | n=>n,fun | 22=>65 | 23=>61 | 25=>300 | 3=>3 | 0=>0 | 4=>4 | n=>n,fun | n=>n⟩
theorem _root_.Go.Proofs.Tryz.AA:Go.Proofs.SlLaysH.n6 prog Tryz.sL:={
 mixed:=by kernel_rfl
 f6:=⟨f246.name,by decide,func246.trans (congrArg some (by kernel_rfl))⟩
 t0:=underlying0
 a0:=Tryz.isAgg0
 z0:=sizeOf0
 v0:=zeroValue0
 t3:=underlying3
 a3:=Tryz.isAgg3
 z3:=sizeOf3
 v3:=zeroValue3
 t4:=underlying4
 a4:=Tryz.isAgg4
 z4:=sizeOf4
 v4:=zeroValue4
 t22:=underlying65
 a22:=Tryz.isAgg65
 z22:=sizeOf65
 v22:=zeroValue65
 a23:=Tryz.isAgg61
 z23:=sizeOf61
 t25:=underlying300
 a25:=Tryz.isAgg300
 z25:=sizeOf300
 v25:=zeroValue300}
open Go.RowKit Go.Lib in
theorem _root_.Go.Proofs.Tryz.jV {α:Type} [Inhabited α] (a:Option Addr) (c:Nat) (fv:Value) (w:World):
 Calls prog 246 #[.slice a 0 c,fv] w λe w'=>e=.returned (.int .i64 (-1))/\w'=w:=AnyE.slices_IndexFunc_empty Tryz.AA a c fv w
def _root_.Go.Proofs.Tryz.rG:Go.Shelf.Ren:=⟨fun | 10=>203 | 6=>246 | n=>n,fun | 22=>65 | 23=>61 | 25=>300 | 3=>3 | 4=>4 | 0=>0 | n=>n,fun | n=>n⟩
theorem _root_.Go.Proofs.Tryz.xW:Go.Proofs.SlLaysH.n10 prog Tryz.rG:={
 mixed:=by kernel_rfl
 f6:=⟨f246.name,by decide,func246.trans (congrArg some (by kernel_rfl))⟩
 f10:=⟨f203.name,by decide,func203.trans (congrArg some (by kernel_rfl))⟩
 t0:=underlying0
 a0:=Tryz.isAgg0
 z0:=sizeOf0
 v0:=zeroValue0
 t3:=underlying3
 a3:=Tryz.isAgg3
 z3:=sizeOf3
 v3:=zeroValue3
 t4:=underlying4
 a4:=Tryz.isAgg4
 z4:=sizeOf4
 v4:=zeroValue4
 t22:=underlying65
 a22:=Tryz.isAgg65
 z22:=sizeOf65
 v22:=zeroValue65
 a23:=Tryz.isAgg61
 z23:=sizeOf61
 t25:=underlying300
 a25:=Tryz.isAgg300
 z25:=sizeOf300
 v25:=zeroValue300}
open Go.RowKit Go.Lib Go.Sort in
theorem _root_.Go.Proofs.Tryz.m_ {α:Type} [Inhabited α] (enc:α->Value) (hO:OneCell enc) (p:α->Bool) (g:Nat) (lb:Array Value) (eg:∀args w,(callFunc g args).run prog w=.ok (.enter g args) w) (zr:α) (v23:∀w,(zeroValue 61).run prog w=.ok (enc zr) w) (blk off cap:Nat) (d:Array α) (w:World) (hp:PredAt prog g lb enc p w) (hpo:PredOver prog g lb enc p blk off d.size w) (hH:Holds enc w blk off d) (hsz:d.size<=9223372036854775807) (hcap:d.size<=cap):
 Calls prog 203 #[.slice (some ⟨blk,off,none⟩) d.size cap,.func (.func g) #[] lb] w λe w'=>e=.returned (.slice (some ⟨blk,off,none⟩) (d.toList.filter λx=> !p x).length cap)/\∃q,w'=putRow enc (Sort.ahead w q) blk off ((d.toList.filter λx=> !p x)++List.replicate (d.size-(d.toList.filter λx=> !p x).length) zr).toArray:=AnyE.slices_DeleteFunc Tryz.xW enc hO p g lb eg zr v23 blk off cap d w hp hpo hH hsz hcap
end
section
open Go.Lib Go.Shelf Go.Sort
abbrev av (i:Nat):Value:=.int .u32 (i:Int)
theorem SX:OneCell av:=λ_=>rfl
theorem Tryz.z26 (w:World):(zeroValue 61).run prog w=.ok (av 0) w:=by kernel_rfl
theorem J5 (x p:Nat):((x:Int)==(p:Int))=(x==p):=by
 rw[Bool.eq_iff_iff,beq_iff_eq,beq_iff_eq];omega
theorem Ma (x p B:Nat) (W:World) (hc:W.cell? ⟨B,0,none⟩=some (av p)):
 Calls prog 204 #[av x,ptr B] W λe w'=>e=.returned (.bool (x==p))/\w'=W:=by
 have HB:=zH (J5 x p);go_enter func204,ntmps204;go_wp2_with fail;go_ret;exact⟨by rw[<-HB.out];rfl,rfl⟩
theorem Jh (x p B:Nat) (W:World) (hc:W.cell? ⟨B,0,none⟩=some (av p)):
 Calls prog 206 #[av x,ptr B] W λe w'=>e=.returned (.bool (x==p))/\w'=W:=by
 have HB:=zH (J5 x p);go_enter func206,ntmps206;go_wp2_with fail;go_ret;exact⟨by rw[<-HB.out];rfl,rfl⟩
def DX (f:Nat) (p B:Nat):Prop:=(∀x W,W.cell? ⟨B,0,none⟩=some (av p)->Calls prog f #[av x,ptr B] W λe w'=>e=.returned (.bool (x==p))/\w'=W)/\
 ∀args w,(callFunc f args).run prog w=.ok (.enter f args) w
theorem Ch (p B:Nat):DX 204 p B:=⟨λx W h=>Ma x p B W h,enters_of func204 (by kernel_rfl) rfl⟩
theorem Ju (p B:Nat):DX 206 p B:=⟨λx W h=>Jh x p B W h,enters_of func206 (by kernel_rfl) rfl⟩
theorem Dx (a:Option Addr) (c:Nat) (fv:Value) (w:World):
 Calls prog 203 #[.slice a 0 c,fv] w λe w'=>e=.returned (.slice a 0 c)/\w'=w:=by
 have HI:=zH (Tryz.jV (α:=Nat) a c fv w);go_enter func203,ntmps203;go_wp2_with fail;refine HI.out.mono ?_;rintro e w1 ⟨rfl,hw⟩;subst w1;go_wp2_with fail;go_ret;exact⟨rfl,rfl⟩
theorem uS (w:World) (q b:Nat) (D:Array Nat) (cur:Array Value) (e:TypeId) (h:w.heap[b]? =some (.cells cur e (0,0))):
 (putRow av (Sort.ahead w q) b 0 D).heap[b]? =some (.cells (Go.Sort.putCells av 0 D cur) e (0,0)):=by
 simp[putRow,mapBlock,Sort.ahead,Array.getElem?_modify,h,onCells]
theorem ni (w:World) (q b:Nat) (D:Array Nat):w.grownBy (putRow av (Sort.ahead w q) b 0 D) (some b):=
 ⟨rfl,rfl,rfl,by simp[putRow,mapBlock,Sort.ahead],λk _ hk=>by
  have:¬b=k:=λe=>hk (by rw[e]);simp[putRow,mapBlock,Sort.ahead,Array.getElem?_modify,this]⟩
theorem rP {w:World} {base f:Nat} (hf:DX f p B) (h:w.ownsRow base 61 1 v ids.length (ids.map av)) (hB:aj w B 61 #[av p]) (hne:v.ownBlock≠some B):
 Calls prog 203 #[v,.func (.func f) #[] #[ptr B]] w λe w'=>∃v',e=.returned v'/\
  w'.ownsRow base 61 1 v' (ids.filter (λx=> !(x==p))).length ((ids.filter (λx=> !(x==p))).map av)/\w.grownBy w' v.ownBlock/\(∀k,v'.ownBlock=some k->v.ownBlock=some k):=by
 rcases h.2 with⟨rfl,h0⟩ | ⟨b,cap,cur,rfl,AV,hh,h1,h2,h3,h4⟩
 ·have ja:ids=[]:=zy h0;subst ja;refine(Dx none 0 _ w).mono ?_;rintro e w1 ⟨rfl,rfl⟩;exact⟨_,rfl,World.ownsRow_nil _ _ _ _,⟨rfl,rfl,rfl,za _,λ_ _ _=>rfl⟩,λk hk=>hk⟩
 ·have hnb:b≠B:=λe=>hne (by rw[e];rfl);have hlen:ids.toArray.size=ids.length:=by simp
  have hcm:cap<=9223372036854775807:=by unfold maxLen at h2;omega
  have hH:Holds av w b 0 ids.toArray:=by
   intro j hj;have hj':j<ids.length:=by simpa using hj
   rw[zaj];refine⟨(h.cellAt j (by omega)).trans ?_,h.frozenAt j⟩;simp[hj']
  have hp:PredAt prog f #[ptr B] av (λx=>x==p) w:=λW x hb=>by
   refine(hf.1 x W ((hb.cell (p:=⟨B,0,none⟩) hB.lt).trans (hB.cell 0))).mono ?_;rintro e w' ⟨rfl,rfl⟩;exact⟨rfl,0,rfl⟩
  have hpo:PredOver prog f #[ptr B] av (λx=>x==p) b 0 ids.toArray.size w:=λn os dk x SD=>by
   refine(hf.1 x _ ?_).mono ?_
   ·have e1:=ni w n b dk;have e2:(sortWorld av w b 0 n dk os).heap[B]? =w.heap[B]? :=by
     have hsz:B<(putRow av (Sort.ahead w n) b 0 dk).heap.size:=zf hB.lt e1.size;exact(Sort.heap_grow_old (putRow av (Sort.ahead w n) b 0 dk) os hsz).trans (e1.block B hB.lt (λe=>hnb (by injection e with e;exact e.symm)))
    exact(hB.keep e2).cell 0
   ·rintro e w' ⟨rfl,rfl⟩;exact⟨rfl,0,rfl⟩
  have Fw:=Tryz.m_ av SX (λx=>x==p) f #[ptr B] hf.2 0 Tryz.z26 b 0 cap ids.toArray w hp hpo hH (by rw[hlen];omega) (by rw[hlen];exact h1);rw[hlen] at Fw;refine Fw.mono ?_;rintro e w' ⟨rfl,q,rfl⟩;have hlf:(ids.filter (λx=> !(x==p))).length<=ids.length:=zau _ _;have hcsz:cur.size=cap:=by rw[h3,Nat.mul_one]
  refine⟨_,rfl,⟨by simp,.inr ⟨b,cap,_,rfl,AV,uS w q b _ cur _ hh,zl hlf h1,h2,?_,?_⟩⟩,ni w q b _,λk hk=>hk⟩
  ·simp[Go.Sort.putCells,h3]
  ·apply za9;intro k;rw[Nat.mul_one,zT]
   split
   ·rename_i hk;have hkc:k<cur.size:=by omega
    simp only[Go.Sort.putCells,zZ,Array.getElem?_mapIdx];rw[Array.getElem?_eq_getElem hkc];have hk2:k<((ids.filter (λx=> !(x==p)))++List.replicate (ids.length-(ids.filter (λx=> !(x==p))).length) 0).length:=by
     rw[zo,zbc];omega
    simp only[zas,za0,zaj,true_and,Nat.sub_zero,zV];rw[zK hk2,zN,zk hk];simp only[zas]
    congr 2
    rw[zG _ k (by simpa using hk2)];simp[zbr hk]
   ·rename_i hk;rw[List.getElem?_eq_none (by simpa using hk)]
theorem Jo {G:af} {w:World} {rows:List Sp.Bs} (hR:aA G w A rows) (hA:cO A) (hl:rows.length<=1000000):
 Calls prog 202 #[.slice A rows.length c] w λe w'=>∃A' c',e=.returned (.slice A' rows.length c')/\cO A'/\aA (λb=>w.heap.size<=b) w' A' rows/\zB w w':=by
 obtain⟨i0,hi,hz0,hz1,hz2⟩:=info_parts Ev;rcases hA with rfl | ⟨b,o,rfl⟩
 ·have h0:rows=[]:=by
   cases rows with
   | nil=>rfl
   | cons x l=>
    obtain⟨b,o,e,_⟩:=hR.2 (by simp)
    cases e
  subst h0;refine(Tryz.nZ 0 c w).mono ?_;rintro e w1 ⟨rfl,rfl⟩;exact⟨none,0,rfl,.inl rfl,Reads.none_,Below.refl _ _⟩
 ·have TF:∀w,(Go.sizeOf 9).run prog w=.ok 1 w:=λw=>by kernel_rfl
  rcases Nat.eq_zero_or_pos rows.length with h0 | hpos
  ·have h0':rows=[]:=zy h0;subst h0';refine(Tryz.lA i0 _ 1 16 hi hz0 hz1 hz2 rfl (by decide) TF b o 0 c [] w rfl (by unfold maxLen;omega) (by omega) (λj u hu=>by simp at hu) (λu hu=>by simp at hu)).mono ?_;rintro e w1 ⟨v,rfl,hO,hnn,hb⟩;obtain⟨A',c',rfl,hA',vQ⟩:=xM (rows:=[]) hO;exact⟨A',c',rfl,hA',vQ,hb⟩
  ·obtain⟨b2,o2,e2,_,_,hc⟩:=hR.2 hpos;injection e2 with e2;injection e2 with e3 e4;subst e3 e4;refine(Tryz.lA i0 _ 1 16 hi hz0 hz1 hz2 rfl (by decide) TF b o rows.length c (Ak rows) w (by simp) (by unfold maxLen;omega) (by omega) hc (λu hu=>by
    obtain⟨x,_,rfl⟩:=zn.1 hu;rfl)).mono ?_
   rintro e w1 ⟨v,rfl,hO,hnn,hb⟩;obtain⟨A',c',rfl,hA',vQ⟩:=xM hO;exact⟨A',c',rfl,hA',vQ,hb⟩
end
section
open Go.Conc
theorem ji (w:World) (c b cap:Nat) (buf:Array Value) (cl:Bool) (s r:Nat) (tm:Bool) (h:b≠c):(w.setChan c cap buf cl s r tm).heap[b]? =w.heap[b]? :=by
 simp[World.setChan,zJ (Ne.symm h)]
theorem aj.nw {w:World} {cs:Array Value} {cl:Bool} (h:aj w b t cs) (hc:w.heap[c]? =some (.chan cap buf cl s r tm)):b≠c:=by
 rintro rfl;unfold aj at h;rw[h] at hc
 cases hc
theorem dV.nw {k:TypeId} {w:World} {lk:Nat->Option Nat} {cl:Bool} (h:dV P k e w b m lk) (hc:w.heap[c]? =some (.chan cap buf cl s r tm)):b≠c:=by
 rintro rfl;obtain⟨D,⟨es,clock,h1,_⟩,_⟩:=h;rw[h1] at hc
 cases hc
theorem eM (w:World) (c cap:Nat) (buf:Array Value) (cl:Bool) (s r:Nat) (tm:Bool):w.grownBy (w.setChan c cap buf cl s r tm) (some c):=
 ⟨rfl,rfl,rfl,by simp[World.setChan],λb _ hb=>ji w c b cap buf cl s r tm (λe=>hb (by rw[e]))⟩
theorem Rx (k:Nat):((List.range k).map fun(i:Nat)=>Value.int .i64 (i:Int)).toArray.push (.int .i64 (k:Int))=((List.range (k+1)).map fun(i:Nat)=>Value.int .i64 (i:Int)).toArray:=by
 rw[zbb];simp
theorem Hg (n:Nat) (hn:n<=64) (w:World):(Instr.makeChan 215 (.int .i64 (n:Int))).run prog w=.ok (.chan (some w.heap.size)) (w.alloc (.chan n #[] false 0 0 false)):=by
 obtain⟨i,hi,_,_,hb⟩:=info_parts Mt;have:=run_makeChan (P:=prog) (w:=w) underlying215 hi .i64 n (by omega) (by rw[hb];omega);simpa using this
def bV (n:Nat):Array Value:=madeCells rZ.cells (n*9)
def V2 (w wr:World) (gd gl at_ base n fb gp cb mb k:Nat):Prop:=
 zB w wr/\aj wr fb 213 (bV n)/\aj wr gp 218 (bl gd gl at_ base fb n cb mb (.slice none 0 0))/\dV prog 61 3 wr mb 0 (λ_=>none)/\
  wr.heap[cb]? =some (.chan n ((List.range k).map fun(i:Nat)=>Value.int .i64 (i:Int)).toArray false k 0 false)
def KV (w:World) (gd gl at_ base n:Nat) (e:Ending) (w':World):Prop:=
 ∃gp F,e=.returned (.tuple #[ptr gp,.int .i64 0])/\gY F w' gp gd gl at_ base ⟨n,[],List.range n⟩/\zB w w'/\(∀b,F b->w.heap.size<=b)
theorem Pc {w wr:World} {at_ base:Nat} (h1:1<=n) (I5:n<=64) (h:V2 w wr gd gl at_ base n fb gp cb mb n) (l1:w.heap.size<=fb) (l2:w.heap.size<=cb) (l3:w.heap.size<=mb) (l4:w.heap.size<=gp):
 KV w gd gl at_ base n (.returned (.tuple #[ptr gp,.int .i64 0])) wr:=by
 obtain⟨hb,hF,hP,hM,hC⟩:=h;refine⟨gp,λb=>b=gp\/b=fb\/b=cb\/b=mb,rfl,⟨bM,fb,cb,mb,.slice none 0 0,n,0,bV n,?_⟩,hb,?_⟩
 ·refine⟨⟨h1,I5,by simp,by simp,by simp,by simp⟩,hP,⟨hF,by simp[bV,madeCells],by simp,λi hi j hj=>?_⟩,hC,hM,World.ownsRow_nil _ _ _ _,⟨.inl rfl,.inr (.inl rfl),.inr (.inr (.inl rfl)),.inr (.inr (.inr rfl)),λb h=>by simp[Value.ownBlock] at h⟩,λb h=>h.elim,?_⟩
  ·exact Tt n j i (zbi.1 hi) hj
  ·rintro b (rfl | rfl | rfl | rfl)
   ·exact hP.lt
   ·exact hF.lt
   ·exact(zm.1 hC).1
   ·exact hM.lt
 ·rintro b (rfl | rfl | rfl | rfl)<;>assumption
theorem OS (gd gl at_ base n:Nat) (h1:1<=n) (I5:n<=64) (w:World):
 Calls prog 111 #[ptr gd,ptr gl,.int .i64 at_,.int .i64 base,.int .i64 n] w (KV w gd gl at_ base n):=by
 have d1:decide ((n:Int)<1)=false:=by rw[ze];omega
 have d2:decide ((64:Int)<n)=false:=by rw[ze];omega
 refine iL func111 rfl ?_;simp only[ntmps111,zV,zP,zap,Nat.reduceAdd,Nat.reduceSub,zac,zab,zan,zae,zaa,zal];refine bf ?_;intro K hK;go_wp2_with fail;refine bf ?_;intro K hK;go_wp2_with fail;refine bf ?_;intro K hK;have HK:∀(fb cb mb:Nat) (W:World),(aj W fb 213 (bV n)/\W.heap[cb]? =some (.chan n #[] false 0 0 false)/\dV prog 61 3 W mb 0 (λ_=>none)/\zB w W/\w.heap.size<=fb/\w.heap.size<=cb/\w.heap.size<=mb)->
  K {tmps:=#[ptr gd,ptr gl,.int .i64 at_,.int .i64 base,.int .i64 n,undef,undef,undef,undef,undef,.pointer none,.int .i64 0,ptr W.heap.size,undef,.bool false,ptr gd,.bool false,ptr gl,.bool false,.bool false,.int .i64 n,.bool false,.int .i64 n,.bool false,ptr gd,ptr gl,.int .i64 at_,.int .i64 base,.int .i64 n,.slice (some ⟨fb,0,none⟩) n n,.int .i64 n,.chan (some cb),.map (some mb),.agg (bl gd gl at_ base fb n cb mb (.slice none 0 0)),ptr W.heap.size,undef,undef,undef,undef,undef,undef,undef,undef,undef,undef,undef],defers:=[]} (W.alloc (.cells (bl gd gl at_ base fb n cb mb (.slice none 0 0)) 218)):=by
  rintro fb cb mb W ⟨hF,hC,hM,hb,l1,l2,l3⟩;refine hK _ _ ?_;have cH:=hb.alloc hb.size (.cells (bl gd gl at_ base fb n cb mb (.slice none 0 0)) 218);have hP:=zH (aj.new W 218 (bl gd gl at_ base fb n cb mb (.slice none 0 0)));have hF':=zH (hF.alloc (.cells (bl gd gl at_ base fb n cb mb (.slice none 0 0)) 218));have jK:=zH (hM.alloc (.cells (bl gd gl at_ base fb n cb mb (.slice none 0 0)) 218));have Fv:cb<W.heap.size:=(zm.1 hC).1;have hC':=zH ((Below.heap_alloc W (.cells (bl gd gl at_ base fb n cb mb (.slice none 0 0)) 218) cb Fv).trans hC);have Qa:w.heap.size<=W.heap.size:=hb.size;obtain⟨gp,hgp⟩:=zE W.heap.size;obtain⟨W1,hW1⟩:=zE (W.alloc (.cells (bl gd gl at_ base fb n cb mb (.slice none 0 0)) 218));rw[<-hW1] at cH hP hF' jK hC' ⊢;rw[<-hgp] at hP Qa Fv ⊢;clear hW1 hgp hF hC hM hb hK K;refine f_ ?_;refine bf ?_;intro K hK;go_wp2_with fail;refine h_ ?_;refine Ef (λa wr=>∃(k:Nat) (u13 u37 u38 u39 u40 u41 u42 u43 u44:Value),k<=n/\a={tmps:=#[ptr gd,ptr gl,.int .i64 at_,.int .i64 base,.int .i64 n,undef,undef,undef,undef,undef,.pointer none,.int .i64 0,ptr gp,u13,.bool false,ptr gd,.bool false,ptr gl,.bool false,.bool false,.int .i64 n,.bool false,.int .i64 n,.bool false,ptr gd,ptr gl,.int .i64 at_,.int .i64 base,.int .i64 n,.slice (some ⟨fb,0,none⟩) n n,.int .i64 n,.chan (some cb),.map (some mb),.agg (bl gd gl at_ base fb n cb mb (.slice none 0 0)),ptr gp,.int .i64 n,.int .i64 (k:Nat),u37,u38,u39,u40,u41,u42,u43,u44,undef],defers:=[]}/\V2 w wr gd gl at_ base n fb gp cb mb k) (λa _=>n-(intOf (a.tmps.getD 36 undef)).toNat) ?_ ?_
  ·exact⟨0,undef,undef,undef,undef,undef,undef,undef,undef,undef,za0 _,rfl,cH,hF'.out,hP.out,jK.out,hC'.out⟩
  rintro a wr ⟨k,u13,u37,u38,u39,u40,u41,u42,u43,u44,hk,rfl,hbr,hF,VQ,hM,hC⟩;have HF:=zH hF;have HP:=zH VQ;have HM:=zH hM;have HC:=zH hC;have c5:=VQ.cell 5;simp only[bl,zGA,zGB,zGC] at c5;have hcl2:cb<wr.heap.size:=(zm.1 hC).1;clear hF VQ hM hC hF' hP jK hC' cH;by_cases hlt:k<n
  ·refine bf ?_;intro K hK;go_wp2_with fail;refine bf ?_;intro K hK;go_wp2_with fail;refine f_ ?_;refine h_ ?_;refine bf ?_;intro K hK;go_wp2_with fail;refine gV ?_;change wR _ _ _ [0,1,2,3,4,5] _ _;refine cB 0 39 (v:=ptr gp) (w':=wr) rfl rfl (by rfl) (by go_simp) ?_;simp only[zSA,zSB,zSC];refine cB 1 40 (v:=ptr gp) (w':=wr) rfl rfl (by rfl) (by go_simp) ?_;simp only[zSA,zSB,zSC];refine cB 2 41 (v:=.pointer (some ⟨gp,5,none⟩)) (w':=wr) rfl rfl (by rfl) (by go_simp) ?_;simp only[zSA,zSB,zSC];refine cB 3 42 (v:=.chan (some cb)) (w':=wr) rfl rfl (by rfl) (by go_simp) ?_;simp only[zSA,zSB,zSC];refine cB 4 43 (v:=.int .i64 k) (w':=wr) rfl rfl (by rfl) (by go_simp) ?_;simp only[zSA,zSB,zSC];refine JA 5 (c:=cb) (cap:=n) (buf:=((List.range k).map fun(i:Nat)=>Value.int .i64 (i:Int)).toArray) (s:=k) (r:=0) (tm:=false) (v:=.int .i64 k) (z:=.tuple #[]) (w':=wr) rfl rfl (by rfl) (by simp[execOp,scase,Act.eval]) HC.out (by simpa using hlt) ?_;refine nM ?_;simp only[Exit.inBlock,Exit.then];refine fF ?_;have hg:=eM wr cb n ((((List.range k).map fun(i:Nat)=>Value.int .i64 (i:Int)).toArray).push (.int .i64 (k:Int))) false (k+1) 0 false;have hF2:=zH (HF.out.grown hg (λe=>HF.out.nw HC.out (by injection e)));have VQ:=zH (HP.out.grown hg (λe=>HP.out.nw HC.out (by injection e)));have hM2:=zH (HM.out.kept hg (λe=>HM.out.nw HC.out (by injection e)));have FJ:=heap_setChan wr cb n ((((List.range k).map fun(i:Nat)=>Value.int .i64 (i:Int)).toArray).push (.int .i64 (k:Int))) false (k+1) 0 false hcl2;have hb2:zB w (wr.setChan cb n ((((List.range k).map fun(i:Nat)=>Value.int .i64 (i:Int)).toArray).push (.int .i64 (k:Int))) false (k+1) 0 false):=hbr.grown hg hbr.size (λr e=>by cases e;exact l2);clear hg c5;generalize wr.setChan cb n ((((List.range k).map fun(i:Nat)=>Value.int .i64 (i:Int)).toArray).push (.int .i64 (k:Int))) false (k+1) 0 false=w5 at*;rw[Rx] at FJ;have HC2:=zH FJ;clear FJ;go_wp2_with fail;exact⟨⟨k+1,hlt,⟨_,_,_,_,_,_,_,_,_,rfl⟩,hb2,hF2.out,VQ.out,hM2.out,HC2.out⟩,by simp[intOf];omega⟩
  ·obtain rfl:k=n:=by omega
   refine bf ?_;intro K hK;go_wp2_with fail;refine bf ?_;intro K hK;go_wp2_with fail;have hN:=zH (Pc h1 I5 ⟨hbr,HF.out,HP.out,HM.out,HC.out⟩ l1 l2 l3 Qa);refine fF ?_;clear hK c5;go_wp2_with fail
   go_ret2
   exact hN.out
 clear hK;have Wf:=zH HK;clear HK;obtain⟨i0,hi,hz0,hz1,hz2⟩:=info_parts wG;have hms:∀W,(Instr.makeSlice 214 (.int .i64 (n:Int)) (.int .i64 (n:Int))).run prog W=.ok (.slice (some ⟨W.heap.size,0,none⟩) n n) (W.alloc (.cells (bV n) 213)):=λW=>by
  have:=jk (P:=prog) 214 213 i0 rZ underlying214 hi hz0 .i64 .i64 n n (za _) (by rw[hz2];omega) (by omega) W;rw[this,hz1];rfl
 have hmc:=Hg n I5;have z_:=@run_makeMap prog;clear hi hz0 hz1 hz2;refine fQ (λ_=>True) (λ_=>false) ?_
 repeat (refine bK trivial ?_)
 refine gR (rs:=[5,7,8]) (by kernel_rfl) (by simp) (λi hi=>?_);simp only[zW,zak,or_false] at hi;rcases hi with rfl | rfl | rfl
 ·refine cN 29 (v:=.slice (some ⟨w.drew.heap.size,0,none⟩) n n) (w':=w.drew.alloc (.cells (bV n) 213)) rfl rfl (by rfl) (by go_simp) ⟨λ_=>trivial,?_⟩;simp only[zSA,zSB,zSC];have hb:zB w (w.drew.alloc (.cells (bV n) 213)):=((Below.refl _ w).drew).alloc (za _) _;have h5:aj (w.drew.alloc (.cells (bV n) 213)) w.drew.heap.size 213 (bV n):=aj.new _ _ _;have l5:w.heap.size<=w.drew.heap.size:=za _;have hs:=hb.size;obtain⟨f5,vM⟩:=zE w.drew.heap.size;obtain⟨W1,hW1⟩:=zE (w.drew.alloc (.cells (bV n) 213));rw[<-hW1] at hb hs h5 ⊢;rw[<-vM] at h5 l5;clear hW1;rw[<-vM];clear vM;refine gR (rs:=[7,8]) (by kernel_rfl) (by simp) (λi hi=>?_);simp only[zW,zak,or_false] at hi;rcases hi with rfl | rfl
  ·refine cN 31 (v:=.chan (some W1.heap.size)) (w':=W1.alloc (.chan n #[] false 0 0 false)) rfl rfl (by rfl) (by go_simp) ⟨λ_=>trivial,?_⟩;simp only[zSA,zSB,zSC];have hb:=hb.alloc hb.size (.chan n #[] false 0 0 false);have h5:=h5.alloc (.chan n #[] false 0 0 false);have h7:(W1.alloc (.chan n #[] false 0 0 false)).heap[W1.heap.size]? =some (.chan n #[] false 0 0 false):=heap_alloc_new _ _;have l7:w.heap.size<=W1.heap.size:=hs;have hs:=hb.size;obtain⟨f7,Da⟩:=zE W1.heap.size;obtain⟨W2,hW2⟩:=zE (W1.alloc (.chan n #[] false 0 0 false));rw[<-hW2] at hb hs h5 h7 ⊢;rw[<-Da] at h7 l7;clear hW2;rw[<-Da];clear Da;refine gR (rs:=[8]) (by kernel_rfl) (by simp) (λi hi=>?_);obtain rfl:=zq.1 hi
   ·refine cN 32 (v:=.map (some W2.heap.size)) (w':=W2.alloc (.map #[] 0)) rfl rfl (by rfl) (by go_simp) ⟨λ_=>trivial,?_⟩;simp only[zSA,zSB,zSC];have hb:=hb.alloc hb.size (.map #[] 0);have h5:=h5.alloc (.map #[] 0);have h7:=(Below.heap_alloc W2 (.map #[] 0) f7 (by have:=zm.1 h7;exact this.1)).trans h7;have h8:dV prog 61 3 (W2.alloc (.map #[] 0)) W2.heap.size 0 (λ_=>none):=dV.made _;have l8:w.heap.size<=W2.heap.size:=hs;have hs:=hb.size;obtain⟨f8,vK⟩:=zE W2.heap.size;obtain⟨W3,hW3⟩:=zE (W2.alloc (.map #[] 0));rw[<-hW3] at hb hs h5 h7 h8 ⊢;rw[<-vK] at h8 l8;clear hW3;rw[<-vK];clear vK;refine fe 9 33 (v:=.agg (bl gd gl at_ base f5 n f7 f8 (.slice none 0 0))) (w':=W3) rfl (by go_simp) (λ_=>trivial) ?_;refine fe 10 34 (v:=ptr W3.heap.size) (w':=W3.alloc (.cells (bl gd gl at_ base f5 n f7 f8 (.slice none 0 0)) 218)) rfl (by go_simp) (λ_=>trivial) ?_;refine fe 11 12 (v:=ptr W3.heap.size) (w':=W3.alloc (.cells (bl gd gl at_ base f5 n f7 f8 (.slice none 0 0)) 218)) rfl (by go_simp) (λ_=>trivial) ?_;refine aC (by kernel_rfl) ?_ _;exact Wf.out f5 f7 f8 W3 ⟨h5,h7,h8,hb,l5,l7,l8⟩
  ·refine cN 32 (v:=.map (some W1.heap.size)) (w':=W1.alloc (.map #[] 0)) rfl rfl (by rfl) (by go_simp) ⟨λ_=>trivial,?_⟩;simp only[zSA,zSB,zSC];have hb:=hb.alloc hb.size (.map #[] 0);have h5:=h5.alloc (.map #[] 0);have h8:dV prog 61 3 (W1.alloc (.map #[] 0)) W1.heap.size 0 (λ_=>none):=dV.made _;have l8:w.heap.size<=W1.heap.size:=hs;have hs:=hb.size;obtain⟨f8,vK⟩:=zE W1.heap.size;obtain⟨W2,hW2⟩:=zE (W1.alloc (.map #[] 0));rw[<-hW2] at hb hs h5 h8 ⊢;rw[<-vK] at h8 l8;clear hW2;rw[<-vK];clear vK;refine gR (rs:=[7]) (by kernel_rfl) (by simp) (λi hi=>?_);obtain rfl:=zq.1 hi
   ·refine cN 31 (v:=.chan (some W2.heap.size)) (w':=W2.alloc (.chan n #[] false 0 0 false)) rfl rfl (by rfl) (by go_simp) ⟨λ_=>trivial,?_⟩;simp only[zSA,zSB,zSC];have hb:=hb.alloc hb.size (.chan n #[] false 0 0 false);have h5:=h5.alloc (.chan n #[] false 0 0 false);have h8:=h8.alloc (.chan n #[] false 0 0 false);have h7:(W2.alloc (.chan n #[] false 0 0 false)).heap[W2.heap.size]? =some (.chan n #[] false 0 0 false):=heap_alloc_new _ _;have l7:w.heap.size<=W2.heap.size:=hs;have hs:=hb.size;obtain⟨f7,Da⟩:=zE W2.heap.size;obtain⟨W3,hW3⟩:=zE (W2.alloc (.chan n #[] false 0 0 false));rw[<-hW3] at hb hs h5 h8 h7 ⊢;rw[<-Da] at h7 l7;clear hW3;rw[<-Da];clear Da;refine fe 9 33 (v:=.agg (bl gd gl at_ base f5 n f7 f8 (.slice none 0 0))) (w':=W3) rfl (by go_simp) (λ_=>trivial) ?_;refine fe 10 34 (v:=ptr W3.heap.size) (w':=W3.alloc (.cells (bl gd gl at_ base f5 n f7 f8 (.slice none 0 0)) 218)) rfl (by go_simp) (λ_=>trivial) ?_;refine fe 11 12 (v:=ptr W3.heap.size) (w':=W3.alloc (.cells (bl gd gl at_ base f5 n f7 f8 (.slice none 0 0)) 218)) rfl (by go_simp) (λ_=>trivial) ?_;refine aC (by kernel_rfl) ?_ _;exact Wf.out f5 f7 f8 W3 ⟨h5,h7,h8,hb,l5,l7,l8⟩
 ·refine cN 31 (v:=.chan (some w.drew.heap.size)) (w':=w.drew.alloc (.chan n #[] false 0 0 false)) rfl rfl (by rfl) (by go_simp) ⟨λ_=>trivial,?_⟩;simp only[zSA,zSB,zSC];have hb:zB w (w.drew.alloc (.chan n #[] false 0 0 false)):=((Below.refl _ w).drew).alloc (za _) _;have h7:(w.drew.alloc (.chan n #[] false 0 0 false)).heap[w.drew.heap.size]? =some (.chan n #[] false 0 0 false):=heap_alloc_new _ _;have l7:w.heap.size<=w.drew.heap.size:=za _;have hs:=hb.size;obtain⟨f7,Da⟩:=zE w.drew.heap.size;obtain⟨W1,hW1⟩:=zE (w.drew.alloc (.chan n #[] false 0 0 false));rw[<-hW1] at hb hs h7 ⊢;rw[<-Da] at h7 l7;clear hW1;rw[<-Da];clear Da;refine gR (rs:=[5,8]) (by kernel_rfl) (by simp) (λi hi=>?_);simp only[zW,zak,or_false] at hi;rcases hi with rfl | rfl
  ·refine cN 29 (v:=.slice (some ⟨W1.heap.size,0,none⟩) n n) (w':=W1.alloc (.cells (bV n) 213)) rfl rfl (by rfl) (by go_simp) ⟨λ_=>trivial,?_⟩;simp only[zSA,zSB,zSC];have hb:=hb.alloc hb.size (.cells (bV n) 213);have h7:=(Below.heap_alloc W1 (.cells (bV n) 213) f7 (by have:=zm.1 h7;exact this.1)).trans h7;have h5:aj (W1.alloc (.cells (bV n) 213)) W1.heap.size 213 (bV n):=aj.new _ _ _;have l5:w.heap.size<=W1.heap.size:=hs;have hs:=hb.size;obtain⟨f5,vM⟩:=zE W1.heap.size;obtain⟨W2,hW2⟩:=zE (W1.alloc (.cells (bV n) 213));rw[<-hW2] at hb hs h7 h5 ⊢;rw[<-vM] at h5 l5;clear hW2;rw[<-vM];clear vM;refine gR (rs:=[8]) (by kernel_rfl) (by simp) (λi hi=>?_);obtain rfl:=zq.1 hi
   ·refine cN 32 (v:=.map (some W2.heap.size)) (w':=W2.alloc (.map #[] 0)) rfl rfl (by rfl) (by go_simp) ⟨λ_=>trivial,?_⟩;simp only[zSA,zSB,zSC];have hb:=hb.alloc hb.size (.map #[] 0);have h7:=(Below.heap_alloc W2 (.map #[] 0) f7 (by have:=zm.1 h7;exact this.1)).trans h7;have h5:=h5.alloc (.map #[] 0);have h8:dV prog 61 3 (W2.alloc (.map #[] 0)) W2.heap.size 0 (λ_=>none):=dV.made _;have l8:w.heap.size<=W2.heap.size:=hs;have hs:=hb.size;obtain⟨f8,vK⟩:=zE W2.heap.size;obtain⟨W3,hW3⟩:=zE (W2.alloc (.map #[] 0));rw[<-hW3] at hb hs h7 h5 h8 ⊢;rw[<-vK] at h8 l8;clear hW3;rw[<-vK];clear vK;refine fe 9 33 (v:=.agg (bl gd gl at_ base f5 n f7 f8 (.slice none 0 0))) (w':=W3) rfl (by go_simp) (λ_=>trivial) ?_;refine fe 10 34 (v:=ptr W3.heap.size) (w':=W3.alloc (.cells (bl gd gl at_ base f5 n f7 f8 (.slice none 0 0)) 218)) rfl (by go_simp) (λ_=>trivial) ?_;refine fe 11 12 (v:=ptr W3.heap.size) (w':=W3.alloc (.cells (bl gd gl at_ base f5 n f7 f8 (.slice none 0 0)) 218)) rfl (by go_simp) (λ_=>trivial) ?_;refine aC (by kernel_rfl) ?_ _;exact Wf.out f5 f7 f8 W3 ⟨h5,h7,h8,hb,l5,l7,l8⟩
  ·refine cN 32 (v:=.map (some W1.heap.size)) (w':=W1.alloc (.map #[] 0)) rfl rfl (by rfl) (by go_simp) ⟨λ_=>trivial,?_⟩;simp only[zSA,zSB,zSC];have hb:=hb.alloc hb.size (.map #[] 0);have h7:=(Below.heap_alloc W1 (.map #[] 0) f7 (by have:=zm.1 h7;exact this.1)).trans h7;have h8:dV prog 61 3 (W1.alloc (.map #[] 0)) W1.heap.size 0 (λ_=>none):=dV.made _;have l8:w.heap.size<=W1.heap.size:=hs;have hs:=hb.size;obtain⟨f8,vK⟩:=zE W1.heap.size;obtain⟨W2,hW2⟩:=zE (W1.alloc (.map #[] 0));rw[<-hW2] at hb hs h7 h8 ⊢;rw[<-vK] at h8 l8;clear hW2;rw[<-vK];clear vK;refine gR (rs:=[5]) (by kernel_rfl) (by simp) (λi hi=>?_);obtain rfl:=zq.1 hi
   ·refine cN 29 (v:=.slice (some ⟨W2.heap.size,0,none⟩) n n) (w':=W2.alloc (.cells (bV n) 213)) rfl rfl (by rfl) (by go_simp) ⟨λ_=>trivial,?_⟩;simp only[zSA,zSB,zSC];have hb:=hb.alloc hb.size (.cells (bV n) 213);have h7:=(Below.heap_alloc W2 (.cells (bV n) 213) f7 (by have:=zm.1 h7;exact this.1)).trans h7;have h8:=h8.alloc (.cells (bV n) 213);have h5:aj (W2.alloc (.cells (bV n) 213)) W2.heap.size 213 (bV n):=aj.new _ _ _;have l5:w.heap.size<=W2.heap.size:=hs;have hs:=hb.size;obtain⟨f5,vM⟩:=zE W2.heap.size;obtain⟨W3,hW3⟩:=zE (W2.alloc (.cells (bV n) 213));rw[<-hW3] at hb hs h7 h8 h5 ⊢;rw[<-vM] at h5 l5;clear hW3;rw[<-vM];clear vM;refine fe 9 33 (v:=.agg (bl gd gl at_ base f5 n f7 f8 (.slice none 0 0))) (w':=W3) rfl (by go_simp) (λ_=>trivial) ?_;refine fe 10 34 (v:=ptr W3.heap.size) (w':=W3.alloc (.cells (bl gd gl at_ base f5 n f7 f8 (.slice none 0 0)) 218)) rfl (by go_simp) (λ_=>trivial) ?_;refine fe 11 12 (v:=ptr W3.heap.size) (w':=W3.alloc (.cells (bl gd gl at_ base f5 n f7 f8 (.slice none 0 0)) 218)) rfl (by go_simp) (λ_=>trivial) ?_;refine aC (by kernel_rfl) ?_ _;exact Wf.out f5 f7 f8 W3 ⟨h5,h7,h8,hb,l5,l7,l8⟩
 ·refine cN 32 (v:=.map (some w.drew.heap.size)) (w':=w.drew.alloc (.map #[] 0)) rfl rfl (by rfl) (by go_simp) ⟨λ_=>trivial,?_⟩;simp only[zSA,zSB,zSC];have hb:zB w (w.drew.alloc (.map #[] 0)):=((Below.refl _ w).drew).alloc (za _) _;have h8:dV prog 61 3 (w.drew.alloc (.map #[] 0)) w.drew.heap.size 0 (λ_=>none):=dV.made _;have l8:w.heap.size<=w.drew.heap.size:=za _;have hs:=hb.size;obtain⟨f8,vK⟩:=zE w.drew.heap.size;obtain⟨W1,hW1⟩:=zE (w.drew.alloc (.map #[] 0));rw[<-hW1] at hb hs h8 ⊢;rw[<-vK] at h8 l8;clear hW1;rw[<-vK];clear vK;refine gR (rs:=[5,7]) (by kernel_rfl) (by simp) (λi hi=>?_);simp only[zW,zak,or_false] at hi;rcases hi with rfl | rfl
  ·refine cN 29 (v:=.slice (some ⟨W1.heap.size,0,none⟩) n n) (w':=W1.alloc (.cells (bV n) 213)) rfl rfl (by rfl) (by go_simp) ⟨λ_=>trivial,?_⟩;simp only[zSA,zSB,zSC];have hb:=hb.alloc hb.size (.cells (bV n) 213);have h8:=h8.alloc (.cells (bV n) 213);have h5:aj (W1.alloc (.cells (bV n) 213)) W1.heap.size 213 (bV n):=aj.new _ _ _;have l5:w.heap.size<=W1.heap.size:=hs;have hs:=hb.size;obtain⟨f5,vM⟩:=zE W1.heap.size;obtain⟨W2,hW2⟩:=zE (W1.alloc (.cells (bV n) 213));rw[<-hW2] at hb hs h8 h5 ⊢;rw[<-vM] at h5 l5;clear hW2;rw[<-vM];clear vM;refine gR (rs:=[7]) (by kernel_rfl) (by simp) (λi hi=>?_);obtain rfl:=zq.1 hi
   ·refine cN 31 (v:=.chan (some W2.heap.size)) (w':=W2.alloc (.chan n #[] false 0 0 false)) rfl rfl (by rfl) (by go_simp) ⟨λ_=>trivial,?_⟩;simp only[zSA,zSB,zSC];have hb:=hb.alloc hb.size (.chan n #[] false 0 0 false);have h8:=h8.alloc (.chan n #[] false 0 0 false);have h5:=h5.alloc (.chan n #[] false 0 0 false);have h7:(W2.alloc (.chan n #[] false 0 0 false)).heap[W2.heap.size]? =some (.chan n #[] false 0 0 false):=heap_alloc_new _ _;have l7:w.heap.size<=W2.heap.size:=hs;have hs:=hb.size;obtain⟨f7,Da⟩:=zE W2.heap.size;obtain⟨W3,hW3⟩:=zE (W2.alloc (.chan n #[] false 0 0 false));rw[<-hW3] at hb hs h8 h5 h7 ⊢;rw[<-Da] at h7 l7;clear hW3;rw[<-Da];clear Da;refine fe 9 33 (v:=.agg (bl gd gl at_ base f5 n f7 f8 (.slice none 0 0))) (w':=W3) rfl (by go_simp) (λ_=>trivial) ?_;refine fe 10 34 (v:=ptr W3.heap.size) (w':=W3.alloc (.cells (bl gd gl at_ base f5 n f7 f8 (.slice none 0 0)) 218)) rfl (by go_simp) (λ_=>trivial) ?_;refine fe 11 12 (v:=ptr W3.heap.size) (w':=W3.alloc (.cells (bl gd gl at_ base f5 n f7 f8 (.slice none 0 0)) 218)) rfl (by go_simp) (λ_=>trivial) ?_;refine aC (by kernel_rfl) ?_ _;exact Wf.out f5 f7 f8 W3 ⟨h5,h7,h8,hb,l5,l7,l8⟩
  ·refine cN 31 (v:=.chan (some W1.heap.size)) (w':=W1.alloc (.chan n #[] false 0 0 false)) rfl rfl (by rfl) (by go_simp) ⟨λ_=>trivial,?_⟩;simp only[zSA,zSB,zSC];have hb:=hb.alloc hb.size (.chan n #[] false 0 0 false);have h8:=h8.alloc (.chan n #[] false 0 0 false);have h7:(W1.alloc (.chan n #[] false 0 0 false)).heap[W1.heap.size]? =some (.chan n #[] false 0 0 false):=heap_alloc_new _ _;have l7:w.heap.size<=W1.heap.size:=hs;have hs:=hb.size;obtain⟨f7,Da⟩:=zE W1.heap.size;obtain⟨W2,hW2⟩:=zE (W1.alloc (.chan n #[] false 0 0 false));rw[<-hW2] at hb hs h8 h7 ⊢;rw[<-Da] at h7 l7;clear hW2;rw[<-Da];clear Da;refine gR (rs:=[5]) (by kernel_rfl) (by simp) (λi hi=>?_);obtain rfl:=zq.1 hi
   ·refine cN 29 (v:=.slice (some ⟨W2.heap.size,0,none⟩) n n) (w':=W2.alloc (.cells (bV n) 213)) rfl rfl (by rfl) (by go_simp) ⟨λ_=>trivial,?_⟩;simp only[zSA,zSB,zSC];have hb:=hb.alloc hb.size (.cells (bV n) 213);have h8:=h8.alloc (.cells (bV n) 213);have h7:=(Below.heap_alloc W2 (.cells (bV n) 213) f7 (by have:=zm.1 h7;exact this.1)).trans h7;have h5:aj (W2.alloc (.cells (bV n) 213)) W2.heap.size 213 (bV n):=aj.new _ _ _;have l5:w.heap.size<=W2.heap.size:=hs;have hs:=hb.size;obtain⟨f5,vM⟩:=zE W2.heap.size;obtain⟨W3,hW3⟩:=zE (W2.alloc (.cells (bV n) 213));rw[<-hW3] at hb hs h8 h7 h5 ⊢;rw[<-vM] at h5 l5;clear hW3;rw[<-vM];clear vM;refine fe 9 33 (v:=.agg (bl gd gl at_ base f5 n f7 f8 (.slice none 0 0))) (w':=W3) rfl (by go_simp) (λ_=>trivial) ?_;refine fe 10 34 (v:=ptr W3.heap.size) (w':=W3.alloc (.cells (bl gd gl at_ base f5 n f7 f8 (.slice none 0 0)) 218)) rfl (by go_simp) (λ_=>trivial) ?_;refine fe 11 12 (v:=ptr W3.heap.size) (w':=W3.alloc (.cells (bl gd gl at_ base f5 n f7 f8 (.slice none 0 0)) 218)) rfl (by go_simp) (λ_=>trivial) ?_;refine aC (by kernel_rfl) ?_ _;exact Wf.out f5 f7 f8 W3 ⟨h5,h7,h8,hb,l5,l7,l8⟩
end
namespace Sp
theorem Pl.wf.nodup {p:Pl} (h:p.wf):(p.free++p.items.map (·.idx)).Nodup:=h.idx.nodup_iff.2 List.nodup_range
theorem Pl.wf.BG {p:Pl} (h:p.wf):(p.items.map (·.idx)).Nodup:=(za3.1 h.nodup).2.1
theorem Pl.wf.H_ {p:Pl} (h:p.wf):p.free.Nodup:=(za3.1 h.nodup).1
theorem Pl.wf.Dj {p:Pl} (h:p.wf) (hi:i∈p.free) {it:It} (hit:it∈p.items):i≠it.idx:=(za3.1 h.nodup).2.2 i hi it.idx (zn.2 ⟨it,hit,rfl⟩)
theorem Pl.wf.fp {p:Pl} (h:p.wf) {it:It} (hit:it∈p.items):it.idx<p.n:=
 zbi.1 (h.idx.mem_iff.1 (zz.2 (.inr (zn.2 ⟨it,hit,rfl⟩))))
theorem Pl.wf.Uw {p:Pl} (h:p.wf) (hi:i∈p.free):i<p.n:=zbi.1 (h.idx.mem_iff.1 (zz.2 (.inl hi)))
theorem Pl.wf.len {p:Pl} (h:p.wf):p.free.length+p.items.length=p.n:=by
 have:=h.idx.length_eq;simpa using this
theorem iG {α β:Type} {f:α->β}:∀{l:List α},(l.map f).Nodup->∀{a b:α},a∈l->b∈l->f a=f b->a=b
 | [],_,_,_,ha,_,_=>absurd ha (by simp)
 | x::l,h,a,b,ha,hb,e=>by
  rw[zF,List.nodup_cons] at h;rcases zW.1 ha with e1 | h1<;>rcases zW.1 hb with e2 | h2
  ·rw[e1,e2]
  ·exact absurd (zn.2 ⟨b,h2,by rw[<-e1];exact e.symm⟩) h.1
  ·exact absurd (zn.2 ⟨a,h1,by rw[<-e2];exact e⟩) h.1
  ·exact iG h.2 h1 h2 e
theorem Pl.bu {p:Pl} {it:It} (h:p.find id=some it):it∈p.items/\it.page.id=id:=by
 unfold Pl.find at h;exact⟨List.mem_of_find?_eq_some h,by simpa using List.find?_some h⟩
theorem Pl.gy {p:Pl} (h:p.wf) {it:It} (hit:it∈p.items):p.find it.page.id=some it:=by
 unfold Pl.find
 cases hf:p.items.find? (λx=>x.page.id==it.page.id) with
 | none=>
  have:=List.find?_eq_none.1 hf it hit;simp at this
 | some y=>
  have h1:=List.mem_of_find?_eq_some hf;have h2:y.page.id=it.page.id:=by simpa using List.find?_some hf
  rw[iG h.ids h1 hit h2]
theorem Pl.ir {p:Pl}:p.find id=none↔∀it∈p.items,it.page.id≠id:=by
 unfold Pl.find;rw[List.find?_eq_none];simp
def Pl.upd (p:Pl) (id:Nat) (f:It->It):Pl:={p with items:=p.items.map λx=>if x.page.id=id then f x else x}
structure Jz (f:It->It):Prop where
 id:∀x,(f x).page.id=x.page.id
 idx:∀x,(f x).idx=x.idx
theorem Pl.pK {p:Pl} {f:It->It} (hf:Jz f):(p.upd id f).items.map (·.page.id)=p.items.map (·.page.id):=by
 unfold Pl.upd;rw[zat];apply zY;intro x _;simp only[Function.comp]
 split
 ·exact hf.id x
 ·rfl
theorem Pl.SU {p:Pl} {f:It->It} (hf:Jz f):(p.upd id f).items.map (·.idx)=p.items.map (·.idx):=by
 unfold Pl.upd;rw[zat];apply zY;intro x _;simp only[Function.comp]
 split
 ·exact hf.idx x
 ·rfl
theorem Pl.lp {p:Pl} {f:It->It} {y:It} (h:y∈(p.upd id f).items):∃x∈p.items,y=if x.page.id=id then f x else x:=by
 obtain⟨x,hx,rfl⟩:=zn.1 h;exact⟨x,hx,rfl⟩
theorem Pl.WG {p:Pl} (h:p.wf) {f:It->It} (hf:Jz f) (rW:∀x∈p.items,x.page.id=id->(f x).page.wf/\(f x).page.may/\(f x).pins<=1000000000/\(f x).from_<18446744073709551616):(p.upd id f).wf:=by
 refine⟨h.n1,h.rV,?_,?_,λy hy=>?_,λy hy=>?_⟩
 ·rw[Pl.SU hf];exact h.idx
 ·rw[Pl.pK hf];exact h.ids
 ·obtain⟨x,hx,rfl⟩:=Pl.lp hy
  split
  ·rename_i e;exact⟨(rW x hx e).1,(rW x hx e).2.1⟩
  ·exact h.pg x hx
 ·obtain⟨x,hx,rfl⟩:=Pl.lp hy
  split
  ·rename_i e;exact(rW x hx e).2.2
  ·exact h.small x hx
theorem Pl.WH {p:Pl} {f:It->It} (hf:Jz f):∀q,(p.upd id f).lk q=p.lk q:=by
 intro q;unfold Pl.lk Pl.find Pl.upd;rw[List.find?_map];have e:((λit:It=>it.page.id==q)∘λx=>if x.page.id=id then f x else x)=λit:It=>it.page.id==q:=by
  funext x;simp only[Function.comp]
  split
  ·rw[hf.id]
  ·rfl
 rw[e]
 cases p.items.find? (λit=>it.page.id==q) with
 | none=>rfl
 | some y=>
  simp only[zas]
  split
  ·rw[hf.idx]
  ·rfl
end Sp
section
open Go.Conc
theorem Tryz.zi (w:World):(zeroValue 3).run prog w=.ok (.int .i64 0) w:=by kernel_rfl
section
variable {F R:af} {w:World} {gp gd gl at_ base fb cb mb s r:Nat} {v:Value} {cs:Array Value} {fl ids:List Nat} {p:Sp.Pl}
theorem aH.cells (h:aH F R w gp gd gl at_ base fb cb mb v s r cs fl ids p):w.cell? ⟨gp,0,none⟩=some (ptr gd)/\w.cell? ⟨gp,1,none⟩=some (ptr gl)/\w.cell? ⟨gp,2,none⟩=some (.int .i64 at_)/\w.cell? ⟨gp,3,none⟩=some (.int .i64 base)/\
 w.cell? ⟨gp,4,none⟩=some (.slice (some ⟨fb,0,none⟩) p.n p.n)/\w.cell? ⟨gp,5,none⟩=some (.chan (some cb))/\w.cell? ⟨gp,6,none⟩=some (.map (some mb))/\w.cell? ⟨gp,7,none⟩=some v:=
 ⟨h.blk.cell 0,h.blk.cell 1,h.blk.cell 2,h.blk.cell 3,h.blk.cell 4,h.blk.cell 5,h.blk.cell 6,h.blk.cell 7⟩
theorem aH.item (h:aH F R w gp gd gl at_ base fb cb mb v s r cs fl ids p) {it:Sp.It} (hit:it∈p.items) (hj:j<9):∃A c,w.cell? ⟨fb,it.idx*9+j,none⟩=(aQ it A c)[j]? :=by
 obtain⟨A,c,_,_,hc⟩:=h.fr.item it hit;exact⟨A,c,(h.fr.blk.cell _).trans (hc j hj)⟩
theorem aH.pins (h:aH F R w gp gd gl at_ base fb cb mb v s r cs fl ids p) {it:Sp.It} (hit:it∈p.items):w.cell? ⟨fb,it.idx*9+6,none⟩=some (.int .i64 it.pins):=by
 obtain⟨A,c,e⟩:=h.item hit (j:=6) (by omega);exact e
theorem aH.aK (h:aH F R w gp gd gl at_ base fb cb mb v s r cs fl ids p) {it:Sp.It} (hit:it∈p.items):w.cell? ⟨fb,it.idx*9+7,none⟩=some (.bool it.aK):=by
 obtain⟨A,c,e⟩:=h.item hit (j:=7) (by omega);exact e
theorem aH.look (h:aH F R w gp gd gl at_ base fb cb mb v s r cs fl ids p) (hid:id<4294967296) {it:Sp.It} (hf:p.find id=some it):
 (Instr.lookup 216 (.map (some mb)) (av id) false).run prog w=.ok (.int .i64 it.idx) w:=
 h.map.look underlying61 underlying3 underlying216 (Tryz.zi w) hid (by simp[Sp.Pl.lk,hf])
theorem aH.gw (h:aH F R w gp gd gl at_ base fb cb mb v s r cs fl ids p) (hid:id<4294967296) {it:Sp.It} (hf:p.find id=some it):
 (Instr.lookup 216 (.map (some mb)) (av id) true).run prog w=.ok (.tuple #[.int .i64 it.idx,.bool true]) w:=by
 have:=h.map.look_ok underlying61 underlying3 underlying216 (Tryz.zi w) hid;simpa[Sp.Pl.lk,hf] using this
theorem aH.gH (h:aH F R w gp gd gl at_ base fb cb mb v s r cs fl ids p) (hid:id<4294967296) (hf:p.find id=none):
 (Instr.lookup 216 (.map (some mb)) (av id) true).run prog w=.ok (.tuple #[.int .i64 0,.bool false]) w:=by
 have:=h.map.look_ok underlying61 underlying3 underlying216 (Tryz.zi w) hid;simpa[Sp.Pl.lk,hf] using this
end
theorem cF {w:World} {gp mb:Nat} (h6:w.cell? ⟨gp,6,none⟩=some (.map (some mb))):
 Calls prog 135 #[ptr gp] w λe w'=>e=.returned (.bool true)/\w'=w:=by
 have hne:=λw=>run_neq_map_nil (P:=prog) w 216 _ _ (some mb) underlying216;go_enter func135,ntmps135;go_wp2_with fail;go_ret;exact⟨rfl,rfl⟩
end
open Go.RowKit Go.Conc
theorem oz:(prog.info? 61).map (λi=>(i.zero,i.size,i.bytes))=some (some (.int .u32 0),1,4):=by kernel_rfl
namespace Sp
def Pl.bring (p:Pl) (x:Pg) (i:Nat) (rest:List Nat):Pl:=⟨p.n,p.items++[⟨x,0,false,0,i⟩],rest⟩
def Pl.drop (p:Pl) (id i:Nat):Pl:=⟨p.n,p.items.filter (λx=>x.page.id != id),p.free++[i]⟩
theorem Pl.wf.bring {p:Pl} (h:p.wf) {x:Pg} (hfree:p.free=i::rest) (hn:p.find x.id=none) (hx:x.wf/\x.may):(p.bring x i rest).wf:=by
 have hn':=Pl.ir.1 hn;refine⟨h.n1,h.rV,?_,?_,λy hy=>?_,λy hy=>?_⟩
 ·have:=h.idx;rw[hfree] at this;refine List.Perm.trans ?_ this;simp only[Pl.bring,zI,zF,zaw];rw[<-zh];exact List.perm_append_singleton i (rest++p.items.map (·.idx))
 ·simp only[Pl.bring,zI,zF,zaw];refine za3.2 ⟨h.ids,by simp,λa ha b hb=>?_⟩;obtain⟨y,hy,rfl⟩:=zn.1 ha;rw[zq.1 hb];exact hn' y hy
 ·rcases zz.1 hy with hy | hy
  ·exact h.pg y hy
  ·rw[zq.1 hy];exact hx
 ·rcases zz.1 hy with hy | hy
  ·exact h.small y hy
  ·rw[zq.1 hy];exact⟨by simp,by simp⟩
theorem Pl.Pk {p:Pl} (h:p.wf) {x:Pg} (hfree:p.free=i::rest) (hn:p.find x.id=none) (hx:x.wf/\x.may):∀q,(p.bring x i rest).lk q=BK p.lk x.id i q:=by
 have hw:=h.bring hfree hn hx;intro q;unfold BK Pl.lk
 split
 ·rename_i e;subst e;rw[Pl.gy (p:=p.bring x i rest) hw (it:=⟨x,0,false,0,i⟩) (by simp[Pl.bring])];rfl
 ·rename_i e;have:(p.bring x i rest).find q=p.find q:=by
   unfold Pl.find Pl.bring;rw[List.find?_append]
   cases p.items.find? (λit=>it.page.id==q) with
   | some y=>rfl
   | none=>simp[Ne.symm e]
  rw[this]
theorem Pl.B8 {p:Pl} (h:p.wf) {it:It} (hit:it∈p.items):p.items.Perm (it::p.items.filter (λx=>x.page.id != it.page.id)):=by
 have hsub:∀l:List It,(l.map (·.page.id)).Nodup->it∈l->l.Perm (it::l.filter (λx=>x.page.id != it.page.id)):=by
  intro l
  induction l with
  | nil=>intro _ h;cases h
  | cons y l ih=>
   intro hn hm;rw[zF,List.nodup_cons] at hn;rcases zW.1 hm with e | hm
   ·subst e;rw[zQ (by simp)];refine List.Perm.cons _ ?_;rw[List.filter_eq_self.2];intro a ha;have:a.page.id≠it.page.id:=λe=>hn.1 (zn.2 ⟨a,ha,e⟩);simpa using this
   ·have hne:y.page.id≠it.page.id:=λe=>hn.1 (zn.2 ⟨it,hm,e.symm⟩);rw[zU (by simpa using hne)];exact(List.Perm.cons _ (ih hn.2 hm)).trans (List.Perm.swap _ _ _)
 exact hsub p.items h.ids hit
theorem Pl.wf.drop {p:Pl} (h:p.wf) {it:It} (hit:it∈p.items):(p.drop it.page.id it.idx).wf:=by
 have hp:=Pl.B8 h hit;have hm:∀y,y∈(p.drop it.page.id it.idx).items->y∈p.items:=λy hy=>(zam.1 hy).1;refine⟨h.n1,h.rV,?_,?_,λy hy=>h.pg y (hm y hy),λy hy=>h.small y (hm y hy)⟩
 ·refine List.Perm.trans ?_ h.idx;simp only[Pl.drop];rw[zh];refine List.Perm.append_left _ ?_;exact(hp.map (·.idx)).symm
 ·have:=(hp.map (·.page.id)).nodup_iff.1 h.ids;rw[zF,List.nodup_cons] at this;exact this.2
theorem Pl.drop_length {p:Pl} (h:p.wf) {it:It} (hit:it∈p.items):(p.drop it.page.id it.idx).items.length=p.items.length-1:=by
 have:=(Pl.B8 h hit).length_eq;rw[zP] at this;simp only[Pl.drop];omega
theorem Pl.Ty {p:Pl} (id i:Nat):∀q,(p.drop id i).lk q=BL p.lk id q:=by
 intro q;unfold BL Pl.lk;have hf:(p.drop id i).find q=if q=id then none else p.find q:=by
  unfold Pl.find Pl.drop;simp only;rw[List.find?_filter]
  split
  ·rename_i e;subst e;rw[List.find?_eq_none];intro x _;simp
  ·rename_i e
   congr 1
   funext x;by_cases hx:x.page.id=q
   ·simp[hx,e]
   ·simp[hx]
 rw[hf]
 split<;>rfl
end Sp
section
variable {F R:af} {w w':World} {gp gd gl at_ base fb cb mb s r:Nat} {v:Value} {cs:Array Value} {fl ids:List Nat} {p:Sp.Pl}
theorem fk {w:World} {v:Value} (h:w.ownsRow b e k v n xs) (hg:v.ownBlock=some g):∃cur,w.heap[g]? =some (.cells cur e (0,0)):=by
 rcases h.2 with⟨rfl,_⟩ | ⟨g',cap,cur,rfl,_,hh,_⟩
 ·simp[Value.ownBlock] at hg
 ·simp only[Value.ownBlock,Option.some.injEq] at hg;subst hg;exact⟨cur,hh⟩
theorem aH.dI (h:aH F R w gp gd gl at_ base fb cb mb v s r cs fl ids p):v.ownBlock≠some gp/\v.ownBlock≠some fb/\v.ownBlock≠some cb/\v.ownBlock≠some mb:=by
 refine⟨λe=>?_,λe=>?_,λe=>?_,λe=>?_⟩<;>obtain⟨cur,hc⟩:=fk h.row e
 ·have:=h.blk;unfold aj at this;rw[hc] at this;injection this with this;injection this with _ this _;exact absurd this (by decide)
 ·have:=h.fr.blk;unfold aj at this;rw[hc] at this;injection this with this;injection this with _ this _;exact absurd this (by decide)
 ·rw[h.chan] at hc;cases hc
 ·obtain⟨D,⟨es,cl,h1,_⟩,_⟩:=h.map;rw[h1] at hc;cases hc
theorem aH.ne (h:aH F R w gp gd gl at_ base fb cb mb v s r cs fl ids p):gp≠fb/\gp≠cb/\gp≠mb/\fb≠cb/\fb≠mb/\mb≠cb:=by
 refine⟨h.blk.Tq h.fr.blk (by decide),h.blk.nw h.chan,?_,h.fr.blk.nw h.chan,?_,h.map.nw h.chan⟩<;>rintro rfl<;>obtain⟨D,⟨es,cl,h1,_⟩,_⟩:=h.map
 ·have:=h.blk;unfold aj at this;rw[h1] at this;cases this
 ·have:=h.fr.blk;unfold aj at this;rw[h1] at this;cases this
theorem js {v:Value} (h:w.ownsRow 0 61 1 v n xs) (hk:∀b,v.ownBlock=some b->w'.heap[b]? =w.heap[b]?):w'.ownsRow 0 61 1 v n xs:=by
 refine⟨h.1,?_⟩;rcases h.2 with h' | ⟨b,cap,cur,rfl,hb,hh,rest⟩
 ·exact .inl h'
 ·exact .inr ⟨b,cap,cur,rfl,hb,(hk b rfl).trans hh,rest⟩
structure fJ (cs cs':Array Value) (i:Nat):Prop where
 size:cs'.size=cs.size
 rest:∀k,(k<i*9\/i*9+9<=k)->cs'[k]? =cs[k]?
theorem fJ.other {cs:Array Value} (h:fJ cs cs' i) (hk:k≠i) (hj:j<9):cs'[k*9+j]? =cs[k*9+j]? :=
 h.rest _ (by omega)
theorem fJ.cell {cs:Array Value} (hj:j<9) (u:Value):fJ cs (cs.setIfInBounds (i*9+j) u) i:=
 ⟨by simp,λk hk=>by rw[zJ (by omega)]⟩
theorem fJ.trans {cs cs'':Array Value} (h:fJ cs cs' i) (k:fJ cs' cs'' i):fJ cs cs'' i:=
 ⟨k.size.trans h.size,λj hj=>(k.rest j hj).trans (h.rest j hj)⟩
theorem fJ.part {cs:Array Value} {l:List Value} (hl:l.length=9) (hi:i*9+9<=cs.size):fJ cs (aD cs (i*9) l) i:=by
 refine⟨by simp[aD];omega,λk hk=>?_⟩;unfold aD;rw[zGA,zh];rcases hk with hk | hk
 ·rw[zai (by simp;omega),zT,zK hk,zZ]
 ·rw[zO (by simp;omega),zO (by simp;omega),zaf,zZ]
  congr 1
  simp;omega
theorem J2 {cs:Array Value} {l:List Value} (hl:l.length=9) (hi:i*9+9<=cs.size) (hj:j<9):(aD cs (i*9) l)[i*9+j]? =l[j]? :=by
 unfold aD;rw[zGA,zh,zO (by simp;omega),zai (by simp;omega)]
 congr 1
 simp;omega
theorem aH.upd (h:aH F R w gp gd gl at_ base fb cb mb v s r cs fl ids p) {it:Sp.It} {f:Sp.It->Sp.It} (hf:Sp.Jz f) (hit:it∈p.items)
 (BQ:(f it).page.wf/\(f it).page.may/\(f it).pins<=1000000000/\(f it).from_<18446744073709551616) (hs:w.heap.size<=w'.heap.size) (hk:∀b,F b->b≠fb->w'.heap[b]? =w.heap[b]?)
 (hblk:aj w' fb 213 cs') (hfr:fJ cs cs' it.idx) (hnew:∃A c,cO A/\aA R w' A (f it).page.rows/\∀j,j<9->cs'[it.idx*9+j]? =(aQ (f it) A c)[j]?):
 aH F R w' gp gd gl at_ base fb cb mb v s r cs' fl ids (p.upd it.page.id f):=by
 obtain⟨f1,f2,f3,f4,f5⟩:=h.foot;obtain⟨n1,n2,n3,n4,n5,n6⟩:=h.ne;obtain⟨o1,o2,o3,o4⟩:=h.dI;have hone:∀x∈p.items,x.page.id=it.page.id->x=it:=λx hx e=>Sp.iG h.wf.ids hx hit e;refine⟨Sp.Pl.WG h.wf hf (λx hx e=>by rw[hone x hx e];exact BQ),h.blk.keep (hk _ f1 n1),⟨hblk,hfr.size.trans h.fr.size,λy hy=>?_,λi hi j hj=>?_⟩,(hk _ f3 (Ne.symm n4)).trans h.chan,?_,
  js h.row (λb hb=>hk b (f5 b hb) (λe=>o2 (by rw[hb,e]))),h.foot,h.rows,λb hb=>zf (h.lt b hb) hs⟩
 ·obtain⟨x,hx,rfl⟩:=Sp.Pl.lp hy
  split
  ·rename_i e;have:=hone x hx e;subst this;simpa[hf.idx] using hnew
  ·rename_i e;obtain⟨A,c,hA,hR,hc⟩:=h.fr.item x hx;refine⟨A,c,hA,hR.keep hs (λb hb=>hk b (h.rows b hb).1 (h.rows b hb).2.2.1),λj hj=>?_⟩;rw[hfr.other (λe2=>e (congrArg (λx=>x.page.id) (Sp.iG h.wf.BG hx hit e2))) hj];exact hc j hj
 ·have hi':i∈p.free:=hi;rw[hfr.other (h.wf.Dj hi' hit) hj];exact h.fr.free i hi' j hj
 ·have:(p.upd it.page.id f).items.length=p.items.length:=by simp[Sp.Pl.upd]
  rw[this];exact(h.map.keep (hk _ f4 (Ne.symm n5))).congr (λq=>Sp.Pl.WH hf q)
theorem aH.perm (h:aH F R w gp gd gl at_ base fb cb mb v s r cs fl ids p) {l:List Sp.It} (hl:l.Perm p.items):aH F R w gp gd gl at_ base fb cb mb v s r cs fl ids {p with items:=l}:=by
 have hm:∀x,x∈l↔x∈p.items:=λx=>hl.mem_iff;have ja:(l.map (·.page.id)).Nodup:=(hl.map _).nodup_iff.2 h.wf.ids;have hwf:Sp.Pl.wf {p with items:=l}:=⟨h.wf.n1,h.wf.rV,(List.Perm.append_left _ (hl.map _)).trans h.wf.idx,ja,λx hx=>h.wf.pg x ((hm x).1 hx),λx hx=>h.wf.small x ((hm x).1 hx)⟩;refine⟨hwf,h.blk,⟨h.fr.blk,h.fr.size,λx hx=>h.fr.item x ((hm x).1 hx),h.fr.free⟩,h.chan,?_,h.row,h.foot,h.rows,h.lt⟩;have e:({p with items:=l}:Sp.Pl).items.length=p.items.length:=hl.length_eq;rw[e];refine h.map.congr (λq=>?_);unfold Sp.Pl.lk
 congr 1
 cases hq:p.find q with
 | none=>
  rw[Sp.Pl.ir] at hq ⊢;exact λx hx=>hq x ((hm x).1 hx)
 | some y=>
  obtain⟨hy,rfl⟩:=Sp.Pl.bu hq;exact Sp.Pl.gy (p:={p with items:=l}) hwf ((hm y).2 hy)
theorem aH.U_ (h:aH F R w gp gd gl at_ base fb cb mb v s r cs fl ids p) {v':Value} {ids':List Nat} (hs:w.heap.size<=w'.heap.size)
 (hk:∀b,F b->b≠gp->v.ownBlock≠some b->w'.heap[b]? =w.heap[b]?) (hP:aj w' gp 218 (bl gd gl at_ base fb p.n cb mb v')) (hr:w'.ownsRow 0 61 1 v' ids'.length (ids'.map fun(i:Nat)=>Value.int .u32 (i:Int)))
 (hv:∀b,v'.ownBlock=some b->v.ownBlock=some b\/w.heap.size<=b):aH (λb=>F b\/v'.ownBlock=some b) R w' gp gd gl at_ base fb cb mb v' s r cs fl ids' p:=by
 obtain⟨f1,f2,f3,f4,f5⟩:=h.foot;obtain⟨n1,n2,n3,n4,n5,n6⟩:=h.ne;obtain⟨o1,o2,o3,o4⟩:=h.dI;refine⟨h.wf,hP,h.fr.keep hs (hk _ f2 (Ne.symm n1) o2) (λb hb=>hk b (h.rows b hb).1 (h.rows b hb).2.1 (h.rows b hb).2.2.2.2.2),(hk _ f3 (Ne.symm n2) o3).trans h.chan,h.map.keep (hk _ f4 (Ne.symm n3) o4),hr,
  ⟨.inl f1,.inl f2,.inl f3,.inl f4,λb hb=>.inr hb⟩,λb hb=>?_,λb hb=>?_⟩
 ·obtain⟨a1,a2,a3,a4,a5,a6⟩:=h.rows b hb;refine⟨.inl a1,a2,a3,a4,a5,λe=>?_⟩;rcases hv b e with e1 | e1
  ·exact a6 e1
  ·have:=h.lt b a1;omega
 ·rcases hb with hb | hb
  ·exact zf (h.lt b hb) hs
  ·obtain⟨cur,hc⟩:=fk hr hb;exact(zm.1 hc).1
theorem aH.chans (h:aH F R w gp gd gl at_ base fb cb mb v s r cs fl ids p) {Y9:List Nat} {s' r':Nat}:
 aH F R (w.setChan cb p.n (Y9.map fun(i:Nat)=>Value.int .i64 (i:Int)).toArray false s' r' false) gp gd gl at_ base fb cb mb v s' r' cs Y9 ids p:=by
 obtain⟨f1,f2,f3,f4,f5⟩:=h.foot;obtain⟨n1,n2,n3,n4,n5,n6⟩:=h.ne;obtain⟨o1,o2,o3,o4⟩:=h.dI;have hc:cb<w.heap.size:=h.lt _ f3;have hk:∀b,b≠cb->(w.setChan cb p.n (Y9.map fun(i:Nat)=>Value.int .i64 (i:Int)).toArray false s' r' false).heap[b]? =w.heap[b]? :=λb hb=>ji w cb b _ _ _ _ _ _ hb;have hsz:(w.setChan cb p.n (Y9.map fun(i:Nat)=>Value.int .i64 (i:Int)).toArray false s' r' false).heap.size=w.heap.size:=by simp[World.setChan]
 refine⟨h.wf,h.blk.keep (hk _ n2),h.fr.keep (by omega) (hk _ n4) (λb hb=>hk b (h.rows b hb).2.2.2.1),heap_setChan _ _ _ _ _ _ _ _ hc,h.map.keep (hk _ n6),js h.row (λb hb=>hk b (λe=>o3 (by rw[hb,e]))),h.foot,h.rows,λb hb=>by rw[hsz];exact h.lt b hb⟩
theorem aH.bring (h:aH F R w gp gd gl at_ base fb cb mb v s r cs fl ids p) {x:Sp.Pg} {G:af} (hfree:p.free=i::rest) (hn:p.find x.id=none) (hx:x.wf/\x.may)
 (hs:w.heap.size<=w'.heap.size) (hk:∀b,F b->b≠fb->b≠mb->w'.heap[b]? =w.heap[b]?)
 (hblk:aj w' fb 213 cs') (hfr:fJ cs cs' i) (hA:cO A) (hR:aA G w' A x.rows) (hG:∀b,G b->¬F b/\b<w'.heap.size) (hc:∀j,j<9->cs'[i*9+j]? =(aQ ⟨x,0,false,0,i⟩ A c)[j]?)
 (hM:dV prog 61 3 w' mb (p.items.length+1) (BK p.lk x.id i)):
 aH (λb=>F b\/G b) (λb=>R b\/G b) w' gp gd gl at_ base fb cb mb v s r cs' fl ids (p.bring x i rest):=by
 obtain⟨f1,f2,f3,f4,f5⟩:=h.foot;obtain⟨n1,n2,n3,n4,n5,n6⟩:=h.ne;obtain⟨o1,o2,o3,o4⟩:=h.dI;refine⟨h.wf.bring hfree hn hx,h.blk.keep (hk _ f1 n1 n3),⟨hblk,hfr.size.trans h.fr.size,λy hy=>?_,λk hk' j hj=>?_⟩,(hk _ f3 (Ne.symm n4) (Ne.symm n6)).trans h.chan,?_,
  js h.row (λb hb=>hk b (f5 b hb) (λe=>o2 (by rw[hb,e])) (λe=>o4 (by rw[hb,e]))),⟨.inl f1,.inl f2,.inl f3,.inl f4,λb hb=>.inl (f5 b hb)⟩,λb hb=>?_,λb hb=>?_⟩
 ·rcases zz.1 hy with hy | hy
  ·obtain⟨A',c',hA',vQ,hc'⟩:=h.fr.item y hy;refine⟨A',c',hA',(vQ.keep hs (λb hb=>hk b (h.rows b hb).1 (h.rows b hb).2.2.1 (h.rows b hb).2.2.2.2.1)).mono (λb hb=>.inl hb),λj hj=>?_⟩;rw[hfr.other (Ne.symm (h.wf.Dj (by rw[hfree];simp) hy)) hj];exact hc' j hj
  ·rw[zq.1 hy];exact⟨A,c,hA,hR.mono (λb hb=>.inr hb),hc⟩
 ·have hk2:k∈rest:=hk';have hnd:=h.wf.H_;rw[hfree,List.nodup_cons] at hnd;rw[hfr.other (λe=>hnd.1 (by rw[<-e];exact hk2)) hj];exact h.fr.free k (by rw[hfree];exact zbf _ hk2) j hj
 ·have:(p.bring x i rest).items.length=p.items.length+1:=by simp[Sp.Pl.bring]
  rw[this];exact hM.congr (Sp.Pl.Pk h.wf hfree hn hx)
 ·rcases hb with hb | hb
  ·obtain⟨a1,rest⟩:=h.rows b hb;exact⟨.inl a1,rest⟩
  ·have hnF:=(hG b hb).1;exact⟨.inr hb,λe=>hnF (e▸f1),λe=>hnF (e▸f2),λe=>hnF (e▸f3),λe=>hnF (e▸f4),λe=>hnF (f5 b e)⟩
 ·rcases hb with hb | hb
  ·exact zf (h.lt b hb) hs
  ·exact(hG b hb).2
theorem aH.drop (h:aH F R w gp gd gl at_ base fb cb mb v s r cs fl ids p) {it:Sp.It} (hit:it∈p.items)
 (hs:w.heap.size<=w'.heap.size) (hk:∀b,F b->b≠fb->b≠mb->w'.heap[b]? =w.heap[b]?)
 (hblk:aj w' fb 213 cs') (hfr:fJ cs cs' it.idx) (hc:∀j,j<9->cs'[it.idx*9+j]? =cu[j]?)
 (hM:dV prog 61 3 w' mb (p.items.length-1) (BL p.lk it.page.id)):
 aH F R w' gp gd gl at_ base fb cb mb v s r cs' fl ids (p.drop it.page.id it.idx):=by
 obtain⟨f1,f2,f3,f4,f5⟩:=h.foot;obtain⟨n1,n2,n3,n4,n5,n6⟩:=h.ne;obtain⟨o1,o2,o3,o4⟩:=h.dI;refine⟨h.wf.drop hit,h.blk.keep (hk _ f1 n1 n3),⟨hblk,hfr.size.trans h.fr.size,λy hy=>?_,λk hk' j hj=>?_⟩,(hk _ f3 (Ne.symm n4) (Ne.symm n6)).trans h.chan,?_,
  js h.row (λb hb=>hk b (f5 b hb) (λe=>o2 (by rw[hb,e])) (λe=>o4 (by rw[hb,e]))),h.foot,h.rows,λb hb=>zf (h.lt b hb) hs⟩
 ·obtain⟨hy1,sP⟩:=zam.1 hy;obtain⟨A',c',hA',vQ,hc'⟩:=h.fr.item y hy1;refine⟨A',c',hA',vQ.keep hs (λb hb=>hk b (h.rows b hb).1 (h.rows b hb).2.2.1 (h.rows b hb).2.2.2.2.1),λj hj=>?_⟩;have hne:y.idx≠it.idx:=λe=>by
   have:=Sp.iG h.wf.BG hy1 hit e;subst this;simp at sP
  rw[hfr.other hne hj];exact hc' j hj
 ·rcases zz.1 hk' with hk2 | hk2
  ·rw[hfr.other (h.wf.Dj hk2 hit) hj];exact h.fr.free k hk2 j hj
  ·rw[zq.1 hk2];exact hc j hj
 ·rw[Sp.Pl.drop_length h.wf hit];exact hM.congr (Sp.Pl.Ty _ _)
end
section
open Go.Shelf
def _root_.Go.Proofs.Tryz.E_:Go.Shelf.Ren:=⟨fun | 125=>214 | 128=>259 | 129=>260 | n=>n,fun | 46=>243 | 3=>3 | 51=>61 | 53=>24 | 4=>4 | 5=>5 | 9=>9 | n=>n,fun | n=>n⟩
theorem _root_.Go.Proofs.Tryz.TD:Go.Proofs.Lays.n125 prog Tryz.E_:={
 mixed:=by kernel_rfl
 f125:=func214.trans (congrArg some (by kernel_rfl))
 f128:=func259.trans (congrArg some (by kernel_rfl))
 f129:=func260.trans (congrArg some (by kernel_rfl))
 t3:=underlying3
 a3:=Tryz.isAgg3
 z3:=sizeOf3
 v3:=zeroValue3
 t4:=underlying4
 a4:=Tryz.isAgg4
 z4:=sizeOf4
 v4:=zeroValue4
 t5:=underlying5
 a5:=Tryz.isAgg5
 z5:=sizeOf5
 v5:=zeroValue5
 t9:=underlying9
 a9:=Tryz.isAgg9
 z9:=sizeOf9
 v9:=zeroValue9
 t46:=underlying243
 a46:=Tryz.isAgg243
 z46:=sizeOf243
 v46:=zeroValue243
 t51:=underlying61
 a51:=Tryz.isAgg61
 z51:=sizeOf61
 v51:=zeroValue61
 t53:=underlying24
 a53:=Tryz.isAgg24
 z53:=sizeOf24
 v53:=zeroValue24}
theorem _root_.Go.Proofs.Tryz.bits_Len (x:Int) (w:World) (h0:0<=x) (h1:x<=18446744073709551615):
 Calls prog 214 #[.int .u64 x] w λe w'=>e=.returned (.int .i64 (Lib.bitLen x.toNat))/\w'=w:=Any.bits_Len Tryz.TD x w h0 h1
end
section
open Go.Sort
def kY (x y:Nat):Bool:=decide (x<y)
theorem Bc (x:Nat) (w:World):Calls prog 305 #[av x] w λe w'=>e=.returned (.bool false)/\w'=w:=by
 go_enter func305,ntmps305;go_wp2_with fail;go_ret;exact⟨by simp,rfl⟩
theorem tB (x y:Nat) (w:World):Calls prog 256 #[av x,av y] w λe w'=>e=.returned (.bool (kY x y))/\w'=w:=by
 go_enter func256,ntmps256;go_wp2_with (go_at_call 305;refine(Bc _ _).mono ?_;rintro e w' ⟨rfl,rfl⟩);go_ret;exact⟨rfl,rfl⟩
theorem AE (blk off cap a b:Nat) (d:Array Nat) (w:World) (hH:Holds av w blk off d) (hab:a<=b) (hb:b<=d.size) (hsz:d.size<4611686018427387904):
 Calls prog 250 #[.slice (some ⟨blk,off,none⟩) d.size cap,.int .i64 a,.int .i64 b] w λe w'=>
  e=.returned (.tuple #[])/\∃n,w'=putRow av (Sort.ahead w n) blk off (Sort.insertionSort kY d a b):=by
 go_enter func250,ntmps250;go_wp2_with fail;go_loopw [6] (λvi wr=>∃(i n:Nat) (dk:Array Nat),vi=.int .i64 i/\a<i/\i<=b+1/\dk.size=d.size/\wr=putRow av (Sort.ahead w n) blk off dk/\
  insOuter kY a b i dk=insOuter kY a b (a+1) d) (λvi _=>b+1-(intOf vi).toNat)
 case atStart=>exact⟨a+1,0,d,by go_num,by omega,by omega,rfl,(putRow_self _ _ _ _ _ hH).symm,rfl⟩
 case round=>
  obtain⟨i,n,dk,rfl,hai,hib,hsk,hwr,hO⟩:=hrel;have HO:Hid (insOuter kY a b i dk=insOuter kY a b (a+1) d):=hO;clear hO;go_wp2_with fail
  ·go_loopw [7] (λvj wr2=>∃(j m:Nat) (dj:Array Nat),vj=.int .i64 j/\a<=j/\j<=i/\dj.size=d.size/\wr2=putRow av (Sort.ahead w m) blk off dj/\
    insInner kY a j dj=insInner kY a i dk) (λvj _=>(intOf vj).toNat)
   case atStart=>exact⟨i,n,dk,rfl,by omega,za _,hsk,rfl,rfl⟩
   case round=>
    obtain⟨j,m,dj,rfl,haj,hji,hsj,hw2,hI⟩:=hrel;have hlt:i<b:=by assumption
    obtain⟨G,hG⟩:∃G:Nat->Nat,∀t,G t=dj[t]! :=⟨λt=>dj[t]!,λ_=>rfl⟩;have hcw:∀t,t<d.size->wr.cell? ⟨blk,off+t,none⟩=some (av (G t)):=λt ht=>by
     rw[hw2,hG];exact cell?_putRow _ _ _ _ d dj (holds_ahead _ _ _ _ _ _ hH) hsj t (by omega)
    have hfw:∀t,t<d.size->wr.frozen? ⟨blk,off+t,none⟩=false:=λt ht=>by
     rw[hw2,frozen?_putRow];exact((holds_ahead _ _ m _ _ _ hH) t ht).2
    have HW:Hid (wr=putRow av (Sort.ahead w m) blk off dj):=hw2;have HG:Hid (∀t,G t=dj[t]!):=hG;have HI:Hid (insInner kY a j dj=insInner kY a i dk):=hI;clear hw2 hG hI hH;have out:(j<=a\/kY dj[j]! dj[j-1]! =false)->∀q,∃i' n' Ca,Value.int .i64 ((i:Int)+1)=.int .i64 (i':Nat)/\a<i'/\i'<=b+1/\Ca.size=d.size/\
     wr.drewN q=putRow av (Sort.ahead w n') blk off Ca/\insOuter kY a b i' Ca=insOuter kY a b (a+1) d:=λhs q=>
     ⟨i+1,m+q,dj,by go_num,by omega,by omega,hsj,by rw[HW.out];exact putRow_drewN _ _ _ _ _ _ _,
      by rw[<-HO.out,insOuter_go _ _ _ _ _ hlt,<-HI.out,insInner_stop _ _ _ _ hs]⟩
    have OUT:Hid _:=out;clear out;go_wp2_with fail;by_cases hja:a<j
    ·go_quiet (first | (go_at_call 256;refine Calls.quiet_of_same (tB _ _ _)));go_wp2_with fail
     ·have hl:kY (G j) (G (j-1))=true:=by assumption
      go_region
      all_goals go_wp2_with fail
      go_roundw
      case rel=>
       refine⟨j-1,m+(nq+1),swp dj j (j-1),by congr 1;omega,by omega,by omega,by rw[size_swp];exact hsj,?_,?_⟩
       ·rw[HW.out,HG.out,HG.out];exact swap_worldA _ w m (nq+1) blk off dj j (j-1) (by omega) (by omega)
       ·rw[<-HI.out,insInner_go kY a j dj hja (by rw[<-HG.out,<-HG.out];exact hl)]
      case measure=>simp[intOf];omega
     ·have hl:kY (G j) (G (j-1))=false:=by assumption
      go_roundw
      case rel=>exact OUT.out (Or.inr (by rw[<-HG.out,<-HG.out];exact hl)) nq
      case measure=>simp[intOf];omega
    ·go_quiet (first | (go_at_call 256;refine Calls.quiet_of_same (tB _ _ _)));go_wp2_with fail;go_roundw
     case rel=>exact OUT.out (Or.inl (by omega)) nq
     case measure=>simp[intOf];omega
  ·have hge:¬i<b:=by assumption
   go_end0
   exact⟨rfl,n,by unfold Sort.insertionSort;rw[<-HO.out,insOuter_stop _ _ _ _ _ hge]⟩
theorem Tn (blk off cap:Nat) (d:Array Nat) (w:World) (hH:Holds av w blk off d) (h12:d.size<=12) (lim:Int):
 Calls prog 213 #[.slice (some ⟨blk,off,none⟩) d.size cap,.int .i64 0,.int .i64 d.size,.int .i64 lim] w λe w'=>
  e=.returned (.tuple #[])/\∃n,w'=putRow av (Sort.ahead w n) blk off (Sort.insertionSort kY d 0 d.size):=by
 have HI:=zH (AE blk off cap 0 d.size d w hH (za0 _) (za _) (by omega));have d1:decide ((d.size:Int)<=12)=true:=by rw[zx];omega
 clear hH;go_enter func213,ntmps213;go_wp2_with fail;refine wp_loop_rounds 1 ?_;rw[rounds_succ];go_wp2_with fail;refine HI.out.mono ?_;rintro e w1 ⟨rfl,n,hw⟩;go_wp2_with fail;refine bodyPost_ret (results_none rfl _ _ _) rfl ?_;exact⟨rfl,n,rfl⟩
theorem Om (blk off cap:Nat) (d:Array Nat) (w:World) (hH:Holds av w blk off d) (h12:d.size<=12):
 Calls prog 162 #[.slice (some ⟨blk,off,none⟩) d.size cap] w λe w'=>
  e=.returned (.tuple #[])/\∃n,w'=putRow av (Sort.ahead w n) blk off (Sort.insertionSort kY d 0 d.size):=by
 have HP:=zH (Tn blk off cap d w hH h12);have HL:=zH fun(x:Int) (W:World) (h0:0<=x) (h1:x<=18446744073709551615)=>Tryz.bits_Len x W h0 h1;clear hH;go_enter func162,ntmps162;go_wp2_with fail;refine(HL.out _ _ (by omega) (by omega)).mono ?_;rintro e w1 ⟨rfl,hw⟩;subst w1;go_wp2_with fail;refine(HP.out _).mono ?_;rintro e w1 ⟨rfl,n,hw⟩;go_wp2_with fail
 go_end0
 exact⟨rfl,n,rfl⟩
def Sp.sorted (l:List Nat):List Nat:=(Sort.insertionSort kY l.toArray 0 l.length).toList
theorem Tu:SWO kY:=by
 constructor<;>simp[kY]<;>omega
theorem Sp.aX (l:List Nat):(Sp.sorted l).Perm l/\(Sp.sorted l).Pairwise (· <= ·):=by
 obtain⟨⟨h1,h2,h3⟩,h4⟩:=insertionSort_holds Tu l.toArray 0 l.length (za0 _) (by simp);refine⟨?_,?_⟩
 ·unfold Sp.sorted;have e1:(Sort.insertionSort kY l.toArray 0 l.length).extract 0 l.length=Sort.insertionSort kY l.toArray 0 l.length:=by
   apply Array.ext
   ·simp[h1]
   ·intro i _ _;simp
  have e2:l.toArray.extract 0 l.length=l.toArray:=by
   apply Array.ext
   ·simp
   ·intro i _ _;simp
  rw[e1,e2] at h3;simpa using h3
 ·unfold Sp.sorted;rw[za8];intro i j hi hj hij;have hsz:(Sort.insertionSort kY l.toArray 0 l.length).size=l.length:=by rw[h1];simp
  have:=h4 i j (za0 _) hij (by simpa[hsz] using hj);rw[zG _ i (by simpa using hi),zG _ j (by simpa using hj)] at this;simpa[kY] using this
theorem xe {w:World} {cs:Array Value} (hb:aj w g 61 cs) (hl:l.length<=12) (hc:∀j,j<l.length->cs[j]? =some (av l[j]!)):
 Calls prog 162 #[.slice (some ⟨g,0,none⟩) l.length cap] w λe w'=>e=.returned (.tuple #[])/\
  ∃cs',aj w' g 61 cs'/\cs'.size=cs.size/\(∀j,j<l.length->cs'[j]? =some (av (Sp.sorted l)[j]!))/\w.grownBy w' (some g):=by
 have hH:Holds av w g 0 l.toArray:=by
  intro j hj;have hj':j<l.length:=by simpa using hj
  rw[zaj];refine⟨(hb.cell j).trans ?_,hb.frozen j⟩;rw[hc j hj'];simp[hj']
 have hs:=Om g 0 cap l.toArray w hH (by simpa using hl);have hsz:l.toArray.size=l.length:=by simp
 rw[hsz] at hs;have hps:(Sp.sorted l).length=l.length:=(Sp.aX l).1.length_eq;refine hs.mono ?_;rintro e w' ⟨rfl,n,rfl⟩;refine⟨rfl,_,uS w n g _ cs _ hb,by simp[Go.Sort.putCells],λj hj=>?_,ni w n g _⟩;have hjc:j<cs.size:=by
  rcases za4 j cs.size with h | h
  ·exact h
  ·have:=hc j hj;rw[zah h] at this;cases this
 have hlen:(Sort.insertionSort kY l.toArray 0 l.length).size=l.length:=hps;simp only[Go.Sort.putCells,Array.getElem?_mapIdx];rw[Array.getElem?_eq_getElem hjc];simp only[zas,za0,zaj,true_and,Nat.sub_zero];rw[zK (by rw[hlen];exact hj)];unfold Sp.sorted;rw[zG _ j (by rw[hlen];exact hj),zG _ j (by simpa[hlen] using hj)];simp
end
namespace Sp
def Pl.jR (p:Pl) (n:Nat):Bool:=match p.find n with
 | some it=>it.aK
 | none=>false
def Pl.fU (p:Pl) (n:Nat):Nat:=match p.find n with
 | some it=>it.page.aL
 | none=>0
def Pl.Mc (p:Pl) (n:Nat):Bs:=match p.find n with
 | some it=>bW it.page
 | none=>[]
def Pl.aU (p:Pl) (q:List Nat):List (Nat×Bs):=(q.filter p.jR).map λn=>(n,p.Mc n)
def Pl.fA (p:Pl) (q:List Nat):Nat:=(q.filter p.jR).foldl (λm n=>max m (p.fU n)) 0
theorem Pl.M7 (p:Pl) (q:List Nat) (n:Nat):p.aU (q++[n])=if p.jR n=true then p.aU q++[(n,p.Mc n)] else p.aU q:=by
 unfold Pl.aU;rw[zba];by_cases h:p.jR n=true
 ·rw[zK h,zU h];simp
 ·rw[zD h,zQ h];simp
theorem Pl.GZ (p:Pl) (q:List Nat) (n:Nat):p.fA (q++[n])=if p.jR n=true then max (p.fA q) (p.fU n) else p.fA q:=by
 unfold Pl.fA;rw[zba];by_cases h:p.jR n=true
 ·rw[zK h,zU h];simp
 ·rw[zD h,zQ h];simp
theorem Pl.M6 {p:Pl} (h:k<q.length):p.aU (q.take (k+1))=if p.jR q[k]! =true then p.aU (q.take k)++[(q[k]!,p.Mc q[k]!)] else p.aU (q.take k):=by
 rw[zg h,zG _ k h,Pl.M7]
theorem Pl.GY {p:Pl} (h:k<q.length):p.fA (q.take (k+1))=if p.jR q[k]! =true then max (p.fA (q.take k)) (p.fU q[k]!) else p.fA (q.take k):=by
 rw[zg h,zG _ k h,Pl.GZ]
theorem Pl.yL (p:Pl) (q:List Nat):(p.aU q).length<=q.length:=by
 unfold Pl.aU;rw[zM];exact zau _ _
theorem Pl.jv (p:Pl) (q:List Nat):(p.aU q).map (·.1)=q.filter p.jR:=by simp[Pl.aU,Function.comp_def]
theorem Pl.ju {p:Pl} {x:Nat×Bs} (h:x∈p.aU q):x.1∈q/\∃it,p.find x.1=some it/\it.aK=true/\x.2=bW it.page:=by
 obtain⟨n,hn,rfl⟩:=zn.1 h;obtain⟨h1,h2⟩:=zam.1 hn;refine⟨h1,?_⟩;unfold Pl.jR at h2
 cases hf:p.find n with
 | none=>rw[hf] at h2;cases h2
 | some it=>rw[hf] at h2;exact⟨it,rfl,h2,by simp[Pl.Mc,hf]⟩
def Pl.mW (p:Pl) (D:List Nat):Pl:={p with items:=p.items.map λx=>if x.page.id∈D then{x with aK:=false,from_:=0} else x}
theorem Pl.N0 (p:Pl):p.mW []=p:=by simp[Pl.mW]
theorem Pl.Lj (p:Pl) (D:List Nat) (n:Nat):(p.mW D).upd n (λx=>{x with aK:=false,from_:=0})=p.mW (D++[n]):=by
 unfold Pl.mW Pl.upd;simp only[zat,Pl.mk.injEq,true_and,and_true];apply zY;intro x _;simp only[Function.comp,zz,zq];by_cases h1:x.page.id∈D
 ·rw[zK h1,zK (Or.inl h1)];by_cases h2:x.page.id=n
  ·rw[zK h2]
  ·rw[zD h2]
 ·rw[zD h1];by_cases h2:x.page.id=n
  ·rw[zK h2,zK (Or.inr h2)]
  ·rw[zD h2,zD (λh=>h.elim h1 h2)]
theorem Pl.Bq (p:Pl) (D:List Nat) (n:Nat):(p.mW D).find n=(p.find n).map λx=>if x.page.id∈D then{x with aK:=false,from_:=0} else x:=by
 unfold Pl.find Pl.mW;rw[List.find?_map];have e:((λit:It=>it.page.id==n)∘λx=>if x.page.id∈D then{x with aK:=false,from_:=0} else x)=λit:It=>it.page.id==n:=by
  funext x;simp only[Function.comp]
  split<;>rfl
 rw[e]
theorem Pl.Ei (p:Pl) (D:List Nat):(p.mW D).items.map (·.page.id)=p.items.map (·.page.id):=by
 unfold Pl.mW;rw[zat];apply zY;intro x _;simp only[Function.comp]
 split<;>rfl
def Lg.bA (l:Lg) (aL:Nat):Lg:=if aL<l.forced\/l.forced=l.next then l else l.Jb
def Dk.bA (d:Dk) (l:Lg) (aL:Nat):Dk:=if aL<l.forced\/l.forced=l.next then d else d.acts l.eE
theorem Lg.th (l:Lg) (aL:Nat):(l.bA aL).next=l.next:=by unfold Lg.bA;split<;>rfl
theorem Lg.jd (l:Lg) (aL:Nat):(l.bA aL).at_=l.at_/\(l.bA aL).n=l.n:=by unfold Lg.bA;split<;>exact⟨rfl,rfl⟩
theorem Lg.rN {l:Lg} (h:l.wf) (aL:Nat):(l.bA aL).wf:=by
 unfold Lg.bA;split
 ·exact h
 ·exact Lg.uA h
theorem Lg.yF {l:Lg} (h:l.wf) (aL:Nat):(l.bA aL).forced=if l.forced<=aL then l.next else l.forced:=by
 have:=h.fn;unfold Lg.bA;split
 ·rename_i h1
  split
  ·rcases h1 with h1 | h1<;>omega
  ·rfl
 ·rename_i h1;rw[zK (by omega)];rfl
theorem Dk.j5 {d:Dk} (hlo:d.loose=[]) (hf:d.bk= -1) {l:Lg} (h:l.wf) (aL:Nat):(d.bA l aL).loose=[]/\(d.bA l aL).bk= -1/\(d.bA l aL).sure.length=d.sure.length/\
 ∀a,(a+4<=l.at_\/l.at_+l.n<=a)->cM (d.bA l aL).sure a=cM d.sure a:=by
 unfold Dk.bA;split
 ·exact⟨hlo,hf,rfl,λ_ _=>rfl⟩
 ·exact Jd d hlo hf h
end Sp
section
open Go.Conc
theorem Dp (it:Sp.It) (A:Option Addr) (c k j:Nat) (hj:j<9):(aQ {it with pins:=k} A c)[j]? =if j=6 then some (.int .i64 (k:Int)) else(aQ it A c)[j]? :=by
 match j,hj with
 | 0,_ | 1,_ | 2,_ | 3,_ | 4,_ | 5,_ | 6,_ | 7,_ | 8,_=>rfl
theorem aH.pinned {F R:af} {w:World} {at_ base:Nat} {cs:Array Value} {p:Sp.Pl} (h:aH F R w gp gd gl at_ base fb cb mb v s r cs fl ids p) {it:Sp.It} (hit:it∈p.items) (f:Nat->Nat) (hk:f it.pins<=1000000000):
 aH F R (w.setCell ⟨fb,it.idx*9+6,none⟩ (.int .i64 (f it.pins:Nat))) gp gd gl at_ base fb cb mb v s r (cs.setIfInBounds (it.idx*9+6) (.int .i64 (f it.pins:Nat))) fl ids (p.upd it.page.id λx=>{x with pins:=f x.pins}):=by
 obtain⟨A,c,hA,hR,hc⟩:=h.fr.item it hit;have hkeep:∀b,F b->b≠fb->(w.setCell ⟨fb,it.idx*9+6,none⟩ (.int .i64 (f it.pins:Nat))).heap[b]? =w.heap[b]? :=λb _ hb=>Below.heap_setCell w _ _ b hb;have hsz:w.heap.size<=(w.setCell ⟨fb,it.idx*9+6,none⟩ (.int .i64 (f it.pins:Nat))).heap.size:=by simp[World.setCell]
 refine h.upd (f:=λx=>{x with pins:=f x.pins}) ⟨λ_=>rfl,λ_=>rfl⟩ hit ⟨(h.wf.pg it hit).1,(h.wf.pg it hit).2,hk,(h.wf.small it hit).2⟩ hsz hkeep (h.fr.blk.a_ _ _) (fJ.cell (by omega) _) ⟨A,c,hA,hR.keep hsz (λb hb=>hkeep b (h.rows b hb).1 (h.rows b hb).2.2.1),λj hj=>?_⟩;have hlt:=h.wf.fp hit;have hcs:=h.fr.size;rw[Dp it A c _ j hj]
 split
 ·rename_i e;subst e;rw[zaq (by omega)]
 ·rename_i e;rw[zJ (by omega)];exact hc j hj
theorem aH.lD {F R:af} {w:World} {at_ base:Nat} {cs:Array Value} {p:Sp.Pl} (h:aH F R w gp gd gl at_ base fb cb mb v s r cs fl ids p) (k:Nat):w.frozen? ⟨fb,k,none⟩=false:=h.fr.blk.frozen k
theorem Hp {F:af} {w:World} {at_ base:Nat} {p:Sp.Pl} (h:gY F w gp gd gl at_ base p) (hid:id<4294967296) {it:Sp.It} (hf:p.find id=some it) (hp:1<=it.pins):
 Calls prog 75 #[ptr gp,av id] w λe w'=>e=.returned (.int .i64 0)/\gY F w' gp gd gl at_ base (p.upd id λx=>{x with pins:=x.pins-1})/\aa F F w w':=by
 obtain⟨R,fb,cb,mb,v,s,r,cs,h⟩:=h;obtain⟨c0,c1,c2,c3,c4,c5,c6,c7⟩:=h.cells;have HM:=zH (cF c6);have hl:=h.gw hid hf;obtain⟨hit,rfl⟩:=Sp.Pl.bu hf;have hlt:=h.wf.fp hit;have cp:=h.pins hit;have hn:=h.wf.rV;have hs:=h.wf.small it hit;have e0:decide ((it.pins:Int)=0)=false:=by rw[ze];omega
 have hz:=h.lD (it.idx*9+6);have H:=zH (h.pinned hit (λk=>k-1) (by omega));have hF:=h.foot.2.1;have e1:((it.pins-1:Nat):Int)=(it.pins:Int)-1:=by omega
 have eu:((p.upd it.page.id λx=>{x with pins:=x.pins-1}).items.map (·.page.id))=p.items.map (·.page.id):=Sp.Pl.pK ⟨λ_=>rfl,λ_=>rfl⟩;rw[e1,<-eu] at H;have HI:gY F _ gp gd gl at_ base (p.upd it.page.id λx=>{x with pins:=x.pins-1}):=⟨R,fb,cb,mb,v,s,r,_,H.out⟩;have HI:=zH HI;clear h c0 c1 c2 c3 c5 c7 e1 H eu;go_enter func75,ntmps75;go_wp2_with fail;refine HM.out.mono ?_;rintro e w1 ⟨rfl,hw⟩;subst w1;go_wp2_with fail;go_ret;exact⟨rfl,HI.out,(aa.refl F w).setCell (p:=⟨fb,it.idx*9+6,none⟩) (.inl hF) _⟩
theorem lC {w:World} {G:af} {p:Sp.Pg} (hA:cO A) (hR:aA G w A p.rows) (hl:p.rows.length<=1000000):
 Calls prog 139 #[iR p A c] w λe w'=>∃A' c',e=.returned (iR p A' c')/\cO A'/\aA (λb=>w.heap.size<=b) w' A' p.rows/\zB w w':=by
 have HC:=zH fun(W:World) (h:aA G W A p.rows)=>Jo (c:=c) h hA hl;have HR:=zH hR;clear hR hA;go_enter func139,ntmps139;go_wp2_with fail;have hX:=(aj.new w 64 #[.int .u8 p.kind,.int .u8 p.level,.int .u32 p.id,.int .u64 p.aL,.int .u32 p.next,.slice A p.rows.length c]).alloc (.cells #[.int .u8 0,.int .u8 0,.int .u32 0,.int .u64 0,.int .u32 0,.slice none 0 0] 64);have hY:=aj.new (w.alloc (.cells #[.int .u8 p.kind,.int .u8 p.level,.int .u32 p.id,.int .u64 p.aL,.int .u32 p.next,.slice A p.rows.length c] 64)) 64 #[.int .u8 0,.int .u8 0,.int .u32 0,.int .u64 0,.int .u32 0,.slice none 0 0];have hb0:=((zR w).alloc (za _) (.cells #[.int .u8 p.kind,.int .u8 p.level,.int .u32 p.id,.int .u64 p.aL,.int .u32 p.next,.slice A p.rows.length c] 64)).alloc (by simp) (.cells #[.int .u8 0,.int .u8 0,.int .u32 0,.int .u64 0,.int .u32 0,.slice none 0 0] 64);have pW:=zH (Reads.below HR.out hb0);have e1:(w.alloc (.cells #[.int .u8 p.kind,.int .u8 p.level,.int .u32 p.id,.int .u64 p.aL,.int .u32 p.next,.slice A p.rows.length c] 64)).heap.size=w.heap.size+1:=by simp
 rw[e1] at hY;clear e1;refine(HC.out _ pW.out).mono ?_;rintro e w1 ⟨A',c',rfl,hA',vQ,hb1⟩;have hb:=zH (hb0.trans (hb1.mono (by simp;omega)));have hX:=hX.below hb1 (by simp;omega);have hY:=hY.below hb1 (by simp);have mU:=zH (vQ.mono (G':=λb=>w.heap.size+2<=b) (λb hb=>by have hb:_<=b:=hb;simp at hb;omega));have oh:=zH hA';have hs1:=hb1.size;simp at hs1;have x0:=hX.cell 0;have x1:=hX.cell 1;have x2:=hX.cell 2;have x3:=hX.cell 3;have x4:=hX.cell 4;have x5:=hX.cell 5;have f5:=hX.frozen 5;simp only[zGA,zGB,zGC] at x0 x1 x2 x3 x4 x5;have Ab:=hX.a_ 5 (.slice A' p.rows.length c');have hY5:=hY.far (p:=⟨w.heap.size,5,none⟩) (by show w.heap.size+1≠w.heap.size;omega) (.slice A' p.rows.length c');have y0:=Ab.cell 0;have y1:=Ab.cell 1;have y2:=Ab.cell 2;have y3:=Ab.cell 3;have y4:=Ab.cell 4;have y5:=Ab.cell 5;simp only[zGA,zGB,zGC,zSA,zSB,zSC] at y0 y1 y2 y3 y4 y5;have b0:=hY.cell 0;have b1:=hY.cell 1;have b2:=hY.cell 2;have b3:=hY.cell 3;have b4:=hY.cell 4;have b5:=hY.cell 5;simp only[zGA,zGB,zGC] at b0 b1 b2 b3 b4 b5;have g0:=hY.frozen 0;have g1:=hY.frozen 1;have g2:=hY.frozen 2;have g3:=hY.frozen 3;have g4:=hY.frozen 4;have g5:=hY.frozen 5;have HX:=zH Ab;have HY:=zH hY5;clear hX hY Ab hY5 hb0 hb1 vQ hA' pW HC HR;go_wp2_with fail;obtain⟨W8,BX,iB,ig,Fu⟩:=lB HY.out (.int .u8 p.kind) (.int .u8 p.level) (.int .u32 p.id) (.int .u64 p.aL) (.int .u32 p.next) (.slice A' p.rows.length c');rw[BX];have z0:=iB.cell 0;have z1:=iB.cell 1;have z2:=iB.cell 2;have z3:=iB.cell 3;have z4:=iB.cell 4;have z5:=iB.cell 5;simp only[zGA,zGB,zGC] at z0 z1 z2 z3 z4 z5;clear y0 y1 y2 y3 y4 y5 g0 g1 g2 g3 g4 g5 x0 x1 x2 x3 x4 x5 f5 b0 b1 b2 b3 b4 b5;refine bodyPost_ret (v:=iR p A' c') (by rw[results_cell_row rfl _ _ (w.heap.size+1) 64 _ (0,0) _ rfl iB underlying64 rfl rfl]) rfl ⟨A',c',rfl,oh.out,?_,?_⟩
 ·refine((mU.out.keep (w':=W8) ?_ (λb hb=>?_))).mono (λb hb=>by have hb:w.heap.size+2<=b:=hb;omega)
  ·have:=ig.size;simp[World.setCell] at this ⊢;omega
  ·have hb:w.heap.size+2<=b:=hb;rw[Fu b (by omega),Below.heap_setCell _ _ _ b (by show b≠w.heap.size;omega)]
 ·refine Below.trans (hb.out.setCell (p:=⟨w.heap.size,5,none⟩) (za _) _) (ig.below (by simp[World.setCell];omega) (λb hb=>by have hb:b=w.heap.size+1:=hb;omega))
section
variable {P:Program} {ops:Array Oper} {Q:Exit->Act->World->Prop}
theorem lI (t:Tmp) {f:FuncId} {R:Ending->World->Prop} {w:World} {K:Act->World->Prop} (hi:ops[i]? =some oi) (hd:oi.dst=some t)
 (hw:Region.wanted oi (yielded ops a.tmps)=true) (hy:(execOp a.eval oi).run P w=.ok (.enter f args) w') (hc:Calls P f args w' R)
 (h:∀e w'',R e w''->∃v,e=.returned v/\K {tmps:=a.tmps.setIfInBounds t v,defers:=a.defers} w''):wpOp P ops Q i K a w:=by
 unfold wpOp;simp only[hi];rw[zK hw];refine .inl ?_;unfold Oper.wp;rw[hy];refine hc.mono λe w'' hR=>?_;obtain⟨v,rfl,h1⟩:=h e w'' hR;show K (a.put oi.dst v) w'';rw[hd];exact h1
end
abbrev own (v:Value):af:=λb=>v.ownBlock=some b
structure RX (w1 W:World) (v v':Value) (g8 id:Nat) (ids:List Nat):Prop where
 row:W.ownsRow 0 61 1 v' (ids.filter (λx=> !(x==id))).length ((ids.filter (λx=> !(x==id))).map av)
 sub:∀k,v'.ownBlock=some k->v.ownBlock=some k
 one:aj W g8 61 #[av id]
 fresh:w1.heap.size<=g8
 turns:aa (own v) (own v) w1 W
structure RV (w1 W:World) (v v2:Value) (id:Nat) (ids:List Nat):Prop where
 row:W.ownsRow 0 61 1 v2 (ids.filter (λx=> !(x==id))++[id]).length ((ids.filter (λx=> !(x==id))++[id]).map av)
 sub:∀k,v2.ownBlock=some k->v.ownBlock=some k\/w1.heap.size<=k
 turns:aa (own v) (own v) w1 W
def Sp.Pl.fL (p:Sp.Pl) (id:Nat):Sp.Pl:=p.upd id λx=>{x with pins:=x.pins+1}
def RU (F R:af) (w:World) (gp gd gl at_ base fb cb mb s r:Nat) (fl ids:List Nat) (p:Sp.Pl) (it:Sp.It) (e:Ending) (w':World):Prop:=
 ∃F' v' cs',e=.returned (.pointer (some ⟨fb,it.idx*9,none⟩))/\aH F' R w' gp gd gl at_ base fb cb mb v' s r cs' fl (ids.filter (λx=> !(x==it.page.id))++[it.page.id]) (p.fL it.page.id)/\aa F F' w w'
theorem kG {F R:af} {w:World} {at_ base:Nat} {cs:Array Value} {p:Sp.Pl} (h:aH F R w gp gd gl at_ base fb cb mb v s r cs fl ids p) (hid:id<4294967296) {it:Sp.It} (hf:p.find id=some it) (hp:it.pins<1000000000) (hl:ids.length<=64):
 Calls prog 140 #[ptr gp,av id] w (RU F R w gp gd gl at_ base fb cb mb s r fl ids p it):=by
 obtain⟨hit,rfl⟩:=Sp.Pl.bu hf;obtain⟨iu,P8,Px,Pw,Pv⟩:=info_parts oz;have hown:=h.dI;have hlv:∀b,v.ownBlock=some b->b<w.heap.size:=λb hb=>by
  obtain⟨cur,hc⟩:=fk h.row hb;exact(zm.1 hc).1
 have h1:=zH (h.keep (w':=w.alloc (.cells #[av it.page.id] 61)) (by simp) (λb hb=>Below.heap_alloc w _ b (h.lt b hb)));have vI:=zH (aj.new w 61 #[av it.page.id]);go_enter func140,ntmps140;go_wp2_with fail;have e1:(w.alloc (.cells #[av it.page.id] 61)).heap.size=w.heap.size+1:=by simp
 obtain⟨w1,hw1⟩:=zE (w.alloc (.cells #[av it.page.id] 61));rw[<-hw1] at h1 vI e1 ⊢;obtain⟨b3,hb3⟩:=zE w.heap.size;have hlt3:∀b,v.ownBlock=some b->b≠b3:=λb hb e=>by have:=hlv b hb;omega
 have qN:v.ownBlock≠some b3:=λe=>hlt3 _ e rfl;rw[<-hb3] at vI ⊢;have hb3l:w.heap.size<=b3:=by omega
 have e2:w.heap.size<=w1.heap.size:=by omega
 have ht01:aa F F w w1:=by rw[hw1];exact(aa.refl F w).alloc _
 have P_:gp<w.heap.size:=h.lt gp h.foot.1;clear hw1 h hb3 e1;rename_i K hK;have HK:∀(v' v2:Value) (g8:Nat) (W2:World),RV w1 W2 v v2 it.page.id ids->K {tmps:=#[ptr gp,av it.page.id,undef,ptr b3,.pointer none,undef,ptr gp,ptr gp,ptr gp,.pointer (some ⟨gp,7,none⟩),v,.func (.func 204) #[] #[ptr b3],v',av it.page.id,.slice (some ⟨g8,0,none⟩) 1 1,v2,ptr gp,.pointer (some ⟨gp,7,none⟩),undef,undef,undef,undef,undef,undef,undef,undef,undef,undef,undef,undef,undef,undef,undef,undef,undef,undef,undef],defers:=[]} (W2.setCell ⟨gp,7,none⟩ v2):=by
  intro v' v2 g8 W2 ⟨hrow,hsub,htu⟩;refine hK _ _ ?_;have AQ:=h1.out.blk;have kW:gp<w1.heap.size:=AQ.lt;have hlF:=h1.out.lt;have hrd:=zH (h1.out.U_ (w':=W2.setCell ⟨gp,7,none⟩ v2) (v':=v2) (ids':=ids.filter (λx=> !(x==it.page.id))++[it.page.id]) (by simp[World.setCell];exact htu.size)
   (λb hb h1 h2=>(Below.heap_setCell W2 _ _ b h1).trans (htu.block b (hlF b hb) h2)) ((AQ.turns htu hown.1).a_ 7 v2)
   (js hrow (λb hb=>Below.heap_setCell W2 _ _ b (λe=>by
    have e:b=gp:=e;subst e;rcases hsub _ hb with h | h
    ·exact hown.1 h
    ·omega))) hsub)
  have hb3:=zH ((vI.out.turns htu qN).far (p:=⟨gp,7,none⟩) (show b3≠gp from λe=>by omega) v2);have gW:aa F (λb=>F b\/v2.ownBlock=some b) w (W2.setCell ⟨gp,7,none⟩ v2):=by
   have t:aa F F w (W2.setCell ⟨gp,7,none⟩ v2):=(ht01.trans (htu.fw (λb hb=>h1.out.foot.2.2.2.2 b hb) (λb hb=>.inl hb))).setCell (p:=⟨gp,7,none⟩) (.inl h1.out.foot.1) _;refine⟨t.os,t.tape,t.output,t.size,t.block,λb hb=>?_⟩;rcases hb with hb | hb
   ·exact .inl hb
   ·rcases hsub b hb with h | h
    ·exact .inl (h1.out.foot.2.2.2.2 b h)
    ·exact .inr (by omega)
  obtain⟨W3,hW3⟩:=zE (W2.setCell ⟨gp,7,none⟩ v2);rw[<-hW3] at hrd hb3 gW ⊢;clear hW3 hrow htu hK;obtain⟨c0,c1,c2,c3,c4,c5,c6,c7⟩:=hrd.out.cells;have Vy:=(hrd.out.keep (w':=W3.drew) (za _) (λ_ _=>rfl)).look hid hf;have hlt:=hrd.out.wf.fp hit;have cp:=hrd.out.pins hit;have hn:=hrd.out.wf.rV;have hz:=hrd.out.lD (it.idx*9+6);have GH:=hb3.out.cell 0;simp only[zGA,zGC] at GH;have HP:=zH ((hrd.out.keep (w':=W3.drew) (za _) (λ_ _=>rfl)).pinned hit (λk=>k+1) (by omega));clear c0 c1 c2 c3 c5 c7;go_wp2_with fail;refine eV (λW=>zC W gp 4 (.slice (some ⟨fb,0,none⟩) p.n p.n)/\zC W gp 6 (.map (some mb))/\zC W b3 0 (av it.page.id)/\
   (Instr.lookup 216 (.map (some mb)) (av it.page.id) false).run prog W=.ok (.int .i64 it.idx) W) (λ_=>false) rfl ?_
  have hS:=zH (⟨c4,c6,GH,Vy⟩:W3.drew.cell? ⟨gp,4,none⟩=some (.slice (some ⟨fb,0,none⟩) p.n p.n)/\W3.drew.cell? ⟨gp,6,none⟩=some (.map (some mb))/\W3.drew.cell? ⟨b3,0,none⟩=some (av it.page.id)/\
   (Instr.lookup 216 (.map (some mb)) (av it.page.id) false).run prog W3.drew=.ok (.int .i64 it.idx) W3.drew)
  clear Vy;refine kT 0 18 (v:=?_) rfl hS.out ?_ ?_;rotate_left
  ·intro w hSw;(try dsimp only at hSw);go_simp;(try with_reducible rfl)
  refine kT 1 19 (v:=?_) rfl hS.out ?_ ?_;rotate_left
  ·intro w hSw;(try dsimp only at hSw);go_simp;(try with_reducible rfl)
  refine kT 2 20 (v:=?_) rfl hS.out ?_ ?_;rotate_left
  ·intro w hSw;(try dsimp only at hSw);go_simp;(try with_reducible rfl)
  refine kT 3 21 (v:=?_) rfl hS.out ?_ ?_;rotate_left
  ·intro w hSw;(try dsimp only at hSw);go_simp;(try with_reducible rfl)
  refine kT 4 22 (v:=?_) rfl hS.out ?_ ?_;rotate_left
  ·intro w hSw;(try dsimp only at hSw);go_simp;(try with_reducible rfl)
  refine kT 5 23 (v:=?_) rfl hS.out ?_ ?_;rotate_left
  ·intro w hSw;(try dsimp only at hSw);go_simp;(try with_reducible rfl)
  refine kT 6 24 (v:=?_) rfl hS.out ?_ ?_;rotate_left
  ·intro w hSw;(try dsimp only at hSw);go_simp;(try with_reducible rfl)
  refine kT 7 25 (v:=?_) rfl hS.out ?_ ?_;rotate_left
  ·intro w hSw;(try dsimp only at hSw);go_simp;(try with_reducible rfl)
  refine kT 8 26 (v:=?_) rfl hS.out ?_ ?_;rotate_left
  ·intro w hSw;(try dsimp only at hSw);go_simp;(try with_reducible rfl)
  refine kT 9 27 (v:=?_) rfl hS.out ?_ ?_;rotate_left
  ·intro w hSw;(try dsimp only at hSw);go_simp;(try with_reducible rfl)
  refine kT 10 28 (v:=?_) rfl hS.out ?_ ?_;rotate_left
  ·intro w hSw;(try dsimp only at hSw);go_simp;(try with_reducible rfl)
  refine kT 11 5 (v:=?_) rfl hS.out ?_ ?_;rotate_left
  ·intro w hSw;(try dsimp only at hSw);go_simp;(try with_reducible rfl)
  refine aC (by kernel_rfl) ?_ _;rename_i K2 hK2;refine hK2 _ _ ?_;have cp:W3.drew.cell? ⟨fb,it.idx*9+6,none⟩=some (.int .i64 it.pins):=cp;have hz:W3.drew.frozen? ⟨fb,it.idx*9+6,none⟩=false:=hz;have gW:=gW.drew;have hfF:F fb:=h1.out.foot.2.1;clear hK2 K2 hS c4 c6 GH hrd hb3;obtain⟨W4,hW4⟩:=zE W3.drew;rw[<-hW4] at cp hz gW HP ⊢;clear hW4;go_wp2_with fail;go_ret;exact⟨_,v2,_,rfl,HP.out,gW.setCell (p:=⟨fb,it.idx*9+6,none⟩) (.inl hfF) _⟩
 have Wf:=zH HK;clear HK hK;have c7:=h1.out.cells.2.2.2.2.2.2.2;have c3:=vI.out.cell 0;simp only[zGA,zGC] at c3;refine eV (λW=>zC W gp 7 v/\zC W b3 0 (av it.page.id)) (λj=>decide (10<=j)) rfl ?_;have hS:w1.drew.cell? ⟨gp,7,none⟩=some v/\w1.drew.cell? ⟨b3,0,none⟩=some (av it.page.id):=⟨c7,c3⟩;refine kT 0 6 (v:=?_) rfl hS ?_ ?_;rotate_left
 ·intro w hSw;(try dsimp only at hSw);go_simp;(try with_reducible rfl)
 refine kT 1 7 (v:=?_) rfl hS ?_ ?_;rotate_left
 ·intro w hSw;(try dsimp only at hSw);go_simp;(try with_reducible rfl)
 refine kT 2 8 (v:=?_) rfl hS ?_ ?_;rotate_left
 ·intro w hSw;(try dsimp only at hSw);go_simp;(try with_reducible rfl)
 refine kT 3 9 (v:=?_) rfl hS ?_ ?_;rotate_left
 ·intro w hSw;(try dsimp only at hSw);go_simp;(try with_reducible rfl)
 refine kT 4 10 (v:=?_) rfl hS ?_ ?_;rotate_left
 ·intro w hSw;(try dsimp only at hSw);go_simp;(try with_reducible rfl)
 refine kT 5 11 (v:=?_) rfl hS ?_ ?_;rotate_left
 ·intro w hSw;(try dsimp only at hSw);go_simp;(try with_reducible rfl)
 refine kT 7 13 (v:=?_) rfl hS ?_ ?_;rotate_left
 ·intro w hSw;(try dsimp only at hSw);go_simp;(try with_reducible rfl)
 refine gR (rs:=[6,8]) (by kernel_rfl) (by simp) (λi hi=>?_);simp only[zW,zak,or_false] at hi;have uY:=h1.out.row;have AQ:=h1.out.blk;have kW:gp<w1.heap.size:=AQ.lt;have hbl:b3<w1.heap.size:=vI.out.lt;have T0:aa (own v) (own v) w1 w1.drew:=(aa.refl _ _).drew;have X5:∀b,v.ownBlock=some b->b<w1.heap.size:=λb hb=>zf (hlv b hb) e2;rcases hi with rfl | rfl
 refine lI 12 (w':=w1.drew) rfl rfl (by rfl) ?_ (rP (w:=w1.drew) (Ch it.page.id b3) uY vI.out qN) ?_
 ·go_simp
 rintro e W ⟨v',rfl,r1,r2,r3⟩;have T1:=T0.grown r2 (λk hk=>.inl hk);refine⟨v',rfl,λ_=>⟨((AQ.turns T1 hown.1).cell 7).trans rfl,((vI.out.turns T1 qN).cell 0).trans rfl⟩,?_⟩;simp only[zSA,zSB,zSC];refine fe 8 14 (v:=.slice (some ⟨W.heap.size,0,none⟩) 1 1) (w':=W.alloc (.cells #[av it.page.id] 61)) rfl (by go_simp) ?_ ?_
 ·have T2:=T1.alloc (.cells #[av it.page.id] 61);exact λ_=>⟨((AQ.turns T2 hown.1).cell 7).trans rfl,((vI.out.turns T2 qN).cell 0).trans rfl⟩
 have hm:RX w1 (W.alloc (.cells #[av it.page.id] 61)) v v' W.heap.size it.page.id ids:=⟨js r1 (λb hb=>Below.heap_alloc W _ b (by have:=T1.size;have:=X5 b (r3 b hb);omega)),r3,aj.new _ _ _,T1.size,T1.alloc _⟩;obtain⟨g8,u_⟩:=zE W.heap.size;obtain⟨W1,hW1⟩:=zE (W.alloc (.cells #[av it.page.id] 61));rw[<-hW1,<-u_] at hm ⊢;clear hW1 u_ r1 r2 r3 T1;rotate_left;refine cN 14 (v:=.slice (some ⟨w1.drew.heap.size,0,none⟩) 1 1) (w':=w1.drew.alloc (.cells #[av it.page.id] 61)) rfl rfl (by rfl) (by go_simp) ⟨?_,?_⟩
 ·have T2:=T0.alloc (.cells #[av it.page.id] 61);exact λ_=>⟨((AQ.turns T2 hown.1).cell 7).trans rfl,((vI.out.turns T2 qN).cell 0).trans rfl⟩
 simp only[zSA,zSB,zSC];have T2:=T0.alloc (.cells #[av it.page.id] 61);have T2n:=(aa.refl bM w1).drew.alloc (.cells #[av it.page.id] 61);have vJ:=aj.new w1.drew 61 #[av it.page.id];have IL:w1.heap.size<=w1.drew.heap.size:=za _;obtain⟨g8,u_⟩:=zE w1.drew.heap.size;obtain⟨W,hW⟩:=zE (w1.drew.alloc (.cells #[av it.page.id] 61));rw[<-hW,<-u_] at vJ ⊢;rw[<-hW] at T2 T2n;rw[<-u_] at IL;clear hW u_;refine aI 6 12 (w':=W) rfl rfl (by rfl) (by kernel_rfl) ?_ (rP (w:=W) (Ch it.page.id b3) (js uY (λb hb=>T2n.block b (X5 b hb) (λe=>e))) (vI.out.turns T2 qN) qN) ?_
 ·go_simp
 rintro e W1 ⟨v',rfl,r1,r2,r3⟩;have T1:=T2.grown r2 (λk hk=>.inl hk);refine⟨v',rfl,λ_=>⟨((AQ.turns T1 hown.1).cell 7).trans rfl,((vI.out.turns T1 qN).cell 0).trans rfl⟩,?_⟩;simp only[zSA,zSB,zSC];have hm:RX w1 W1 v v' g8 it.page.id ids:=⟨r1,r3,vJ.grown r2 (λe=>by have:=X5 g8 e.symm;omega),IL,T1⟩;clear r1 r2 r3 T1 T2 T2n vJ IL;all_goals
  have hmt:=hm.turns;refine jf 9 rfl (by rfl) (by kernel_rfl) ?_;refine bX _ _ _ _ rfl 0 61 iu _ 1 4 underlying65 P8 Px Pw Pv rfl (by decide) _ _ _ rfl hm.row ⟨g8,0,none⟩ 1 1 [av it.page.id] rfl rfl (λj u hu=>?_) (λx hx=>by simp at hx;subst hx;rfl) ?_ ?_ (za0 _) ?_
  ·cases j with
   | zero=>exact(hm.one.cell 0).trans hu
   | succ j=>simp at hu
  ·have:=zau (λx=> !(x==it.page.id)) ids;unfold maxLen;omega
  ·have:=zau (λx=> !(x==it.page.id)) ids;omega
  intro v2 W2 q1 q2 q3;have T2:=hmt.grown q2 (λk hk=>.inl (hm.sub k hk));obtain⟨x0,x1,x2,rfl⟩:∃g n c,v2=.slice (some ⟨g,0,none⟩) n c:=by
   rcases q1.2 with⟨_,h0⟩ | ⟨g6,c6,_,h0,_⟩
   ·omega
   ·exact⟨g6,_,c6,h0⟩
  have Uk:RV w1 W2 v (.slice (some ⟨x0,0,none⟩) x1 x2) it.page.id ids:=⟨by simpa using q1,λk hk=>(q3 k hk).imp (hm.sub k) (λh=>zl hmt.size h),T2⟩;have f7:=(AQ.turns T2 hown.1).frozen 7;have c7:=(AQ.turns T2 hown.1).cell 7;simp only[bl,zGA,zGB,zGC] at c7;have Uj:W2.cell? ⟨gp,7,none⟩=some v/\W2.cell? ⟨b3,0,none⟩=some (av it.page.id):=⟨c7,((vI.out.turns T2 qN).cell 0).trans rfl⟩;clear q1 q2 q3 T2 hm hmt;refine⟨λ_=>Uj,?_⟩;refine qZ 15 rfl ?_;simp only[zSA,zSB,zSC];refine fe 10 16 (v:=ptr gp) (w':=W2) rfl (by go_simp) (λh=>nomatch h) ?_;refine fe 11 17 (v:=.pointer (some ⟨gp,7,none⟩)) (w':=W2) rfl (by go_simp) (λh=>nomatch h) ?_;refine jx 12 (w':=W2.setCell ⟨gp,7,none⟩ (.slice (some ⟨x0,0,none⟩) x1 x2)) rfl (by go_simp) (λh=>nomatch h) ?_;refine aC (by kernel_rfl) ?_ _;exact Wf.out v' _ g8 W2 Uk
theorem lQ (it:Sp.It) (A:Option Addr) (c:Nat):(aQ it A c).toArray.all (·.oneCell')=true:=by simp[aQ,Value.oneCell']
theorem pZ:(prog.info? 213).map (·.size)=some 9:=by kernel_rfl
section
variable {fb:Nat} {cs:Array Value}
theorem rF {L:List Value} (hb:aj W fb 213 cs) (hL:L.length=9) (hc:∀j,j<9->cs[i*9+j]? =L[j]?):
 (loadVar 213 ⟨fb,i*9,none⟩).run prog W=.ok (.agg L.toArray) W:=by
 refine eW W _ _ _ _ (λj u hu=>?_) underlying213 rfl (by rw[hL];exact pZ);have hj:j<9:=by have:=(zad.1 hu).1;omega
 have e:(⟨fb,i*9,none⟩:Addr).add j=⟨fb,i*9+j,none⟩:=by cases j<;>simp[Addr.add]
 rw[e,hb.cell,hc j hj,hu]
end
theorem sF {F R:af} {w:World} {at_ base fb:Nat} {cs:Array Value} {p:Sp.Pl} (h:aH F R w gp gd gl at_ base fb cb mb v s r cs fl ids p)
 {gx:Nat} {xs:Array Value} (hb:aj w gx 61 xs) (hgx:¬F gx) (hl:l.length<=12) (hxs:∀j,j<l.length->xs[j]? =some (av l[j]!))
 (hin:∀n∈l,n<4294967296/\∃it,p.find n=some it/\it.aK=false):
 Calls prog 146 #[ptr gp,.slice (some ⟨gx,0,none⟩) l.length cap] w λe w'=>e=.returned (.int .i64 0)/\aa (only gx) (only gx) w w':=by
 have HS:=zH (xe (cap:=cap) hb hl hxs);have H:=zH h;have kW:gx<w.heap.size:=hb.lt;have eY:=(Sp.aX l).1;have C8:∀n∈Sp.sorted l,n<4294967296/\∃it,p.find n=some it/\it.aK=false:=λn hn=>hin n (eY.mem_iff.1 hn);have hps:=eY.length_eq;have tS:=zH C8;have lZ:=h.wf.rV;obtain⟨i9,Yd,hz9,hz91,hz92⟩:=info_parts wG;clear h hb hxs hin C8;go_enter func146,ntmps146;go_wp2_with fail;refine HS.out.mono ?_;rintro e w1 ⟨rfl,cs1,hb1,hcs1,hc1,hg1⟩;rw[<-hps] at hc1;have gX:aa (only gx) (only gx) w w1:=(aa.refl (only gx) w).grown hg1 (λk hk=>.inl (by injection hk with hk;exact hk.symm));have H1:=zH (H.out.keep gX.size (λb hb=>gX.block b (H.out.lt b hb) (λe=>hgx (by have e:b=gx:=e;rw[<-e];exact hb))));have Bl:=zH hc1;have cA:=zH hb1;have HG:=zH hgx;clear HS H hg1 hc1 hb1 eY hgx;generalize Sp.sorted l=q at*;rw[<-hps] at hl ⊢;clear hps;go_wp2_with fail;go_loopw [5,6,21] (λv5 v6 i wr=>∃k:Nat,k<=q.length/\v5=.slice none 0 0/\v6=.int .u64 0/\i=.int .i64 k/\aa bM bM w1 wr) (λ_ _ i _=>q.length-(intOf i).toNat)
 case atStart=>exact⟨0,by omega,rfl,rfl,rfl,aa.refl _ _⟩
 case round=>
  obtain⟨k,hk,rfl,rfl,rfl,htr⟩:=hrel;have H2:=zH (H1.out.keep htr.size (λb hb=>htr.block b (H1.out.lt b hb) (λe=>e)));have bB:=cA.out.turns htr (λe=>e);by_cases hlt:k<q.length
  ·have hcell:=(bB.cell k).trans (Bl.out k hlt);obtain⟨hid,it,hf,hd⟩:=tS.out q[k]! (by rw[zG _ k hlt];exact zw hlt);have hmeas:k+1<=q.length:=hlt;clear bB;generalize q[k]! =id at*;obtain⟨hit,rfl⟩:=Sp.Pl.bu hf;obtain⟨A,c,hA,hR,hc⟩:=H2.out.fr.item it hit;have vG:=H2.out.wf.fp hit;have u7:=fun(W:World) (hb:aj W fb 213 cs)=>rF hb rfl hc;have wK:∀W,aH F R W gp gd gl at_ base fb cb mb v s r cs fl ids p->W.cell? ⟨gp,4,none⟩=some (.slice (some ⟨fb,0,none⟩) p.n p.n)/\W.cell? ⟨gp,6,none⟩=some (.map (some mb))/\
    (Instr.lookup 216 (.map (some mb)) (av it.page.id) false).run prog W=.ok (.int .i64 it.idx) W/\aj W fb 213 cs:=λW h=>by
    obtain⟨c0,c1,c2,c3,c4,c5,c6,c7⟩:=h.cells;exact⟨c4,c6,h.look hid hf,h.fr.blk⟩
   have yX:=zH wK;have HL:=zH u7;clear wK u7 hc hA hR hf;go_wp2_with fail;refine eV (λW=>zC W gp 4 (.slice (some ⟨fb,0,none⟩) p.n p.n)/\zC W gp 6 (.map (some mb))/\
    (Instr.lookup 216 (.map (some mb)) (av it.page.id) false).run prog W=.ok (.int .i64 it.idx) W/\aj W fb 213 cs) (λj=>j==13) rfl ?_
   have hS:=zH (yX.out wr.drew (H2.out.keep (za _) (λ_ _=>rfl)))
   repeat (refine bK hS.out ?_)
   refine kT 11 36 (v:=.agg (aQ it A c).toArray) rfl hS.out ?_ ?_
   ·intro w hSw;exact ay _ _ _ rfl rfl (HL.out w hSw.2.2.2)
   have hk3:=H2.out.keep (w':=wr.drew.alloc (.cells cu.toArray 213)) (by simp) (λb hb=>Below.heap_alloc wr.drew _ b (H2.out.lt b hb));refine fe 12 9 (v:=.pointer (some ⟨wr.drew.heap.size,0,none⟩)) (w':=wr.drew.alloc (.cells cu.toArray 213)) rfl (jX _ i9 _ _ rfl Yd hz9 rfl) (λ_=>yX.out _ hk3) ?_;have fq:=aj.new wr.drew 213 cu.toArray;have uj:=htr.drew.alloc (.cells cu.toArray 213);have SC:w1.heap.size<=wr.drew.heap.size:=htr.size;obtain⟨g9,nC⟩:=zE wr.drew.heap.size;obtain⟨w3,hw3⟩:=zE (wr.drew.alloc (.cells cu.toArray 213));rw[<-hw3,<-nC] at fq ⊢;rw[<-hw3] at uj;rw[<-nC] at SC;clear hw3 nC hk3 hS HL yX;refine jx 13 (w':=w3.setRow g9 (aQ it A c).toArray) rfl (aq _ _ _ _ _ rfl rfl rfl (ax w3 g9 0 _ _ _ (aQ it A c).toArray fq pZ (by show 0+9<=9;omega) (lQ it A c))) (λh=>nomatch h) ?_;refine aC (by kernel_rfl) ?_ _;rename_i K9 aT;refine aT _ _ ?_;have fq:=fq.setRow (aQ it A c).toArray;have uj:=uj.setRow (g:=g9) (.inr SC) (aQ it A c).toArray;obtain⟨w4,hw4⟩:=zE (w3.setRow g9 (aQ it A c).toArray);rw[<-hw4] at fq uj ⊢;clear hw4;have f7:=fq.cell 7;simp only[aQ,zGA,zGB,zGC,hd] at f7;clear fq hcell;go_wp2_with fail;go_roundw
   case rel=>exact⟨k+1,hmeas,rfl,rfl,by go_num,uj⟩
   case measure=>simp[intOf];omega
  ·obtain rfl:k=q.length:=by omega
   clear bB;go_wp2_with fail;go_ret;exact⟨rfl,gX.trans (htr.fw (λb h=>h.elim) (λb hb=>.inl hb))⟩
theorem Dn (it:Sp.It) (A:Option Addr) (c j:Nat) (hj:j<9):(aQ {it with aK:=false,from_:=0} A c)[j]? =if j=8 then some (.int .u64 0) else if j=7 then some (.bool false) else(aQ it A c)[j]? :=by
 match j,hj with
 | 0,_ | 1,_ | 2,_ | 3,_ | 4,_ | 5,_ | 6,_ | 7,_ | 8,_=>rfl
theorem aH.WA {F R:af} {w:World} {at_ base:Nat} {cs:Array Value} {p:Sp.Pl} (h:aH F R w gp gd gl at_ base fb cb mb v s r cs fl ids p) {it:Sp.It} (hit:it∈p.items):
 aH F R ((w.setCell ⟨fb,it.idx*9+7,none⟩ (.bool false)).setCell ⟨fb,it.idx*9+8,none⟩ (.int .u64 0)) gp gd gl at_ base fb cb mb v s r ((cs.setIfInBounds (it.idx*9+7) (.bool false)).setIfInBounds (it.idx*9+8) (.int .u64 0)) fl ids (p.upd it.page.id λx=>{x with aK:=false,from_:=0}):=by
 obtain⟨A,c,hA,hR,hc⟩:=h.fr.item it hit;have hkeep:∀b,F b->b≠fb->((w.setCell ⟨fb,it.idx*9+7,none⟩ (.bool false)).setCell ⟨fb,it.idx*9+8,none⟩ (.int .u64 0)).heap[b]? =w.heap[b]? :=λb _ hb=>(Below.heap_setCell _ _ _ b hb).trans (Below.heap_setCell w _ _ b hb);have hsz:w.heap.size<=((w.setCell ⟨fb,it.idx*9+7,none⟩ (.bool false)).setCell ⟨fb,it.idx*9+8,none⟩ (.int .u64 0)).heap.size:=by simp[World.setCell]
 refine h.upd (f:=λx=>{x with aK:=false,from_:=0}) ⟨λ_=>rfl,λ_=>rfl⟩ hit ⟨(h.wf.pg it hit).1,(h.wf.pg it hit).2,(h.wf.small it hit).1,by simp⟩ hsz hkeep ((h.fr.blk.a_ _ _).a_ _ _) ((fJ.cell (by omega) _).trans (fJ.cell (by omega) _)) ⟨A,c,hA,hR.keep hsz (λb hb=>hkeep b (h.rows b hb).1 (h.rows b hb).2.2.1),λj hj=>?_⟩;have hlt:=h.wf.fp hit;have hcs:=h.fr.size;rw[Dn it A c j hj]
 split
 ·rename_i e;subst e;rw[zaq (by simp;omega)]
 ·rw[zJ (by omega)]
  split
  ·rename_i e;subst e;rw[zaq (by omega)]
  ·rw[zJ (by omega)];exact hc j hj
structure Mem (F D G R:af) (w:World) (gp gd gl at_ base fb cb mb:Nat) (v:Value) (s r:Nat) (cs:Array Value) (fl ids:List Nat) (p:Sp.Pl) (d:Sp.Dk) (l:Sp.Lg):Prop where
 pl:aH F R w gp gd gl at_ base fb cb mb v s r cs fl ids p
 dk:cR D w gd d
 lg:dP G w gl gd l
 FD:∀b,F b->¬D b
 FG:∀b,F b->¬G b
 DG:∀b,D b->¬G b
structure Nw (at_ base:Nat) (d:Sp.Dk) (l:Sp.Lg):Prop where
 loose:d.loose=[]
 bk:d.bk= -1
 fit:l.at_+l.n<=d.sure.length
 bO:at_+33<=d.sure.length
 homes:base<=d.sure.length
 next:l.next<4611686018427387904
abbrev cj (F D G:af):af:=λb=>F b\/D b\/G b
theorem BJ {G D:af} {w:World} {l:Sp.Lg} {d:Sp.Dk} {at_ base:Nat} (h:dP G w gl gd l) (hd:cR D w gd d) (nX:∀b,D b->¬G b) (ok:Nw at_ base d l) (hl:aL<=l.next):
 Calls prog 53 #[ptr gl,.int .u64 aL] w (Cs G D w gl gd (l.bA aL) (d.bA l aL)):=by
 by_cases h1:aL<l.forced\/l.forced=l.next
 ·refine(xS h hl h1).mono ?_;rintro e w' ⟨rfl,hb⟩;unfold Sp.Lg.bA Sp.Dk.bA;rw[zK h1,zK h1];exact⟨D,rfl,hd.below hb,h.below hb,λb hb=>.inl hb,aa.az hb _⟩
 ·have:=CY h hd (λb hG hD=>nX b hD hG) ok.loose ok.bk ok.fit ok.next hl (by omega) (by omega);unfold Sp.Lg.bA Sp.Dk.bA;rw[zD h1,zD h1];exact this
def jT (at_ base:Nat) (p:Sp.Pl) (d:Sp.Dk) (l:Sp.Lg) (q:List Nat) (c:Nat) (p':Sp.Pl) (d':Sp.Dk) (l':Sp.Lg):Prop:=
 (p.aU q=[]/\c=0/\p'=p/\d'=d/\l'=l)\/
 (p.aU q≠[]/\l.next<p.fA q/\c=2/\p'=p/\d'=d/\l'=l)\/
 (p.aU q≠[]/\p.fA q<=l.next/\c=0/\p'=p.mW ((p.aU q).map (·.1))/\d'=(d.bA l (p.fA q)).acts (Sp.bq at_ base (p.aU q))/\l'=l.bA (p.fA q))
def KR (F D G R:af) (w:World) (gp gd gl at_ base fb cb mb:Nat) (v:Value) (s r:Nat) (fl ids:List Nat) (p:Sp.Pl) (d:Sp.Dk) (l:Sp.Lg) (gx:Nat) (q:List Nat) (e:Ending) (w':World):Prop:=
 ∃(c:Nat) (D':af) (cs':Array Value) (p':Sp.Pl) (d':Sp.Dk) (l':Sp.Lg),e=.returned (.int .i64 c)/\jT at_ base p d l q c p' d' l'/\(c≠0->D'=D)/\Mem F D' G R w' gp gd gl at_ base fb cb mb v s r cs' fl ids p' d' l'/\aa (λb=>cj F D G b\/b=gx) (λb=>cj F D' G b\/b=gx) w w'
theorem PS:(prog.info? 194).map (λi=>(i.zero,i.size,i.bytes))=some (some (.agg #[.int .u32 0,.string ⟨#[]⟩]),2,24):=BP
theorem sD {F D G R:af} {w:World} {at_ base:Nat} {cs:Array Value} {p:Sp.Pl} {d:Sp.Dk} {l:Sp.Lg} (h:Mem F D G R w gp gd gl at_ base fb cb mb v s r cs fl ids p d l) (ok:Nw at_ base d l)
 {ql:List Nat} {gx:Nat} {xs:Array Value} (hb:aj w gx 61 xs) (hgx:¬cj F D G gx) (hl:ql.length<=12) (hxs:∀j,j<ql.length->xs[j]? =some (av ql[j]!))
 (hin:∀n∈ql,n<4294967296/\Sp.inside d.sure.length at_ base n/\∃it,p.find n=some it) (hnd:ql.Nodup) (h8:(p.aU (Sp.sorted ql)).length<=8) (BV:p.aU (Sp.sorted ql)≠[]):
 Calls prog 146 #[ptr gp,.slice (some ⟨gx,0,none⟩) ql.length cap] w (KR F D G R w gp gd gl at_ base fb cb mb v s r fl ids p d l gx (Sp.sorted ql)):=by
 have HS:=zH (xe (cap:=cap) hb hl hxs);have mg:=zH h;have kW:gx<w.heap.size:=hb.lt;have eY:=(Sp.aX ql).1;have C8:∀n∈Sp.sorted ql,n<4294967296/\Sp.inside d.sure.length at_ base n/\∃it,p.find n=some it:=λn hn=>hin n (eY.mem_iff.1 hn);have hnd2:=eY.nodup_iff.2 hnd;have hps:=eY.length_eq;have tS:=zH C8;have HND:=zH hnd2;have H8:=zH h8;have HDI:=zH BV;have lZ:=h.pl.wf.rV;obtain⟨i9,Yd,hz9,hz91,hz92⟩:=info_parts wG;obtain⟨iH,P9,Fi,Fh,Fg⟩:=info_parts PS;have hiH:=zH P9;have Xu:=zH Fi;have Xt:=zH Fh;have Xs:=zH Fg;clear P9 Fi Fh Fg h hb hxs hin C8 hnd hnd2 h8 BV;go_enter func146,ntmps146;go_wp2_with fail;refine HS.out.mono ?_;rintro e w1 ⟨rfl,cs1,hb1,hcs1,hc1,hg1⟩;rw[<-hps] at hc1;have gX:aa (only gx) (only gx) w w1:=(aa.refl (only gx) w).grown hg1 (λk hk=>.inl (by injection hk with hk;exact hk.symm));have H1:=zH (mg.out.pl.keep gX.size (λb hb=>gX.block b (mg.out.pl.lt b hb) (λe=>hgx (by have e:b=gx:=e;rw[<-e];exact .inl hb))));have HDK1:=zH (mg.out.dk.keep (λb hb=>gX.block b (mg.out.dk.dA b hb) (λe=>hgx (by have e:b=gx:=e;rw[<-e];exact .inr (.inl hb)))));have HLG1:=zH (mg.out.lg.keep (λb hb=>gX.block b (mg.out.lg.dA b hb) (λe=>hgx (by have e:b=gx:=e;rw[<-e];exact .inr (.inr hb)))));have uH:=zH gX;have Bl:=zH hc1;have cA:=zH hb1;have HG:=zH hgx;clear HS hg1 hc1 hb1 eY hgx gX;generalize Sp.sorted ql=q at*;rw[<-hps] at hl ⊢;clear hps;go_wp2_with fail;go_loopw [5,6,21] (λv5 v6 i wr=>∃(k:Nat) (A5:Option Addr) (n5 c5:Nat),k<=q.length/\v5=.slice A5 n5 c5/\n5=(p.aU (q.take k)).length/\wr.ownsRow w1.heap.size 194 2 (.slice A5 n5 c5) (p.aU (q.take k)).length (hcs (p.aU (q.take k)))/\v6=.int .u64 (p.fA (q.take k))/\i=.int .i64 k/\aa bM bM w1 wr) (λ_ _ i _=>q.length-(intOf i).toNat)
 case atStart=>exact⟨0,none,0,0,by omega,rfl,rfl,World.ownsRow_nil _ _ _ _,rfl,rfl,aa.refl _ _⟩
 case round=>
  obtain⟨k,A5,n5,c5,hk,rfl,uZ,hown,rfl,rfl,htr⟩:=hrel;have H2:=zH (H1.out.keep htr.size (λb hb=>htr.block b (H1.out.lt b hb) (λe=>e)));have bB:=cA.out.turns htr (λe=>e);have HO:=zH hown;have Wd:=zH uZ;clear hown uZ;by_cases hlt:k<q.length
  ·have hcell:=(bB.cell k).trans (Bl.out k hlt);obtain⟨hid,ym,it,hf⟩:=tS.out q[k]! (by rw[zG _ k hlt];exact zw hlt);have Dg:=zH (Sp.Pl.M6 (p:=p) hlt);have Kq:=zH (Sp.Pl.GY (p:=p) hlt);have hmeas:k+1<=q.length:=hlt;have hdlen:=Sp.Pl.yL p (q.take k);have htkl:(q.take k).length<=k:=by simp;omega
   clear bB;generalize q[k]! =id at*;obtain⟨hit,rfl⟩:=Sp.Pl.bu hf;have vH:Hid (p.jR it.page.id=it.aK/\p.fU it.page.id=it.page.aL/\p.Mc it.page.id=bW it.page):=zH (by unfold Sp.Pl.jR Sp.Pl.fU Sp.Pl.Mc;rw[hf];exact⟨rfl,rfl,rfl⟩);have hpgw:=H2.out.wf.pg it hit;obtain⟨A,c,hA,hR,hc⟩:=H2.out.fr.item it hit;have vG:=H2.out.wf.fp hit;have u7:=fun(W:World) (hb:aj W fb 213 cs)=>rF hb rfl hc;have wK:∀W,aH F R W gp gd gl at_ base fb cb mb v s r cs fl ids p->W.cell? ⟨gp,4,none⟩=some (.slice (some ⟨fb,0,none⟩) p.n p.n)/\W.cell? ⟨gp,6,none⟩=some (.map (some mb))/\
    (Instr.lookup 216 (.map (some mb)) (av it.page.id) false).run prog W=.ok (.int .i64 it.idx) W/\aj W fb 213 cs:=λW h=>by
    obtain⟨c0,c1,c2,c3,c4,c5,c6,c7⟩:=h.cells;exact⟨c4,c6,h.look hid hf,h.fr.blk⟩
   have yX:=zH wK;have HL:=zH u7;have Ge:=zH hR;have hRl:∀b,R b->b<wr.heap.size:=λb hb=>H2.out.lt b (H2.out.rows b hb).1;clear wK u7 hc hA hR hf;go_wp2_with fail;refine eV (λW=>zC W gp 4 (.slice (some ⟨fb,0,none⟩) p.n p.n)/\zC W gp 6 (.map (some mb))/\
    (Instr.lookup 216 (.map (some mb)) (av it.page.id) false).run prog W=.ok (.int .i64 it.idx) W/\aj W fb 213 cs) (λj=>j==13) rfl ?_
   have hS:=zH (yX.out wr.drew (H2.out.keep (za _) (λ_ _=>rfl)))
   repeat (refine bK hS.out ?_)
   refine kT 11 36 (v:=.agg (aQ it A c).toArray) rfl hS.out ?_ ?_
   ·intro w hSw;exact ay _ _ _ rfl rfl (HL.out w hSw.2.2.2)
   have hk3:=H2.out.keep (w':=wr.drew.alloc (.cells cu.toArray 213)) (by simp) (λb hb=>Below.heap_alloc wr.drew _ b (H2.out.lt b hb));refine fe 12 9 (v:=.pointer (some ⟨wr.drew.heap.size,0,none⟩)) (w':=wr.drew.alloc (.cells cu.toArray 213)) rfl (jX _ i9 _ _ rfl Yd hz9 rfl) (λ_=>yX.out _ hk3) ?_;have fq:=aj.new wr.drew 213 cu.toArray;have uj:=htr.drew.alloc (.cells cu.toArray 213);have SC:w1.heap.size<=wr.drew.heap.size:=htr.size;have nA:=(aa.refl bM wr).drew.alloc (.cells cu.toArray 213);have PX:wr.heap.size<=wr.drew.heap.size:=za _;obtain⟨g9,nC⟩:=zE wr.drew.heap.size;obtain⟨w3,hw3⟩:=zE (wr.drew.alloc (.cells cu.toArray 213));rw[<-hw3,<-nC] at fq ⊢;rw[<-hw3] at uj nA;rw[<-nC] at SC PX;clear hw3 nC hk3 hS HL yX;refine jx 13 (w':=w3.setRow g9 (aQ it A c).toArray) rfl (aq _ _ _ _ _ rfl rfl rfl (ax w3 g9 0 _ _ _ (aQ it A c).toArray fq pZ (by show 0+9<=9;omega) (lQ it A c))) (λh=>nomatch h) ?_;refine aC (by kernel_rfl) ?_ _;rename_i K9 aT;refine aT _ _ ?_;have fq:=fq.setRow (aQ it A c).toArray;have uj:=uj.setRow (g:=g9) (.inr SC) (aQ it A c).toArray;have nA:=nA.setRow (g:=g9) (.inr PX) (aQ it A c).toArray;obtain⟨w4,hw4⟩:=zE (w3.setRow g9 (aQ it A c).toArray);rw[<-hw4] at fq uj nA ⊢;clear hw4;have Df:=bH HO.out (w':=w4) (λb hb=>nA.block b (HO.out.lt b hb).2 (λe=>e));have f7:=fq.cell 7;simp only[aQ,zGA,zGB,zGC] at f7;obtain⟨vH,C5,XW⟩:=vH.out;rw[vH,XW] at Dg;rw[vH,C5] at Kq
   cases hd:it.aK with
   | false=>
    rw[hd] at f7 Dg Kq;rw[zD (by decide)] at Dg Kq;have UO:=zH Df;clear fq hcell Df nA XW C5 vH hd;go_wp2_with fail;go_roundw
    case rel=>exact⟨k+1,A5,n5,c5,hmeas,rfl,by rw[Dg.out];exact Wd.out,by rw[Dg.out];exact UO.out,by rw[Kq.out],by go_num,uj⟩
    case measure=>simp[intOf];omega
   | true=>
    rw[hd] at f7 Dg Kq;rw[zK rfl] at Dg Kq;have z0:=fq.cell 0;have z1:=fq.cell 1;have z2:=fq.cell 2;have z3:=fq.cell 3;have z4:=fq.cell 4;have z5:=fq.cell 5;simp only[aQ,zGA,zGB,zGC] at z0 z1 z2 z3 z4 z5;have HPE:=zH (oG (w:=w4) (c:=c) (Ge.out.keep (w':=w4) nA.size (λb hb=>nA.block b (hRl b hb) (λe=>e))) hpgw.1 hpgw.2);have UO:=zH Df;have tL:=zH fq;have hsw4:=nA.size;clear fq hcell Df nA XW C5 vH hd Ge;go_wp2_with fail;refine HPE.out.mono ?_;rintro e w5 ⟨rfl,cS⟩;have HO5:=zH (cq UO.out cS);have z3':=(tL.out.below cS tL.out.lt).cell 3;simp only[aQ,zGA,zGB,zGC] at z3';have iV:=uj.next cS;clear z0 z1 z2 z3 z4 z5 f7 UO HPE;have hba:=(zR w5).alloc (za _) (.cells #[av it.page.id,str (bW it.page)] 194);have VR:=zH (cq HO5.out hba);have hs5:=cS.size;have hs1:=htr.size;have hn13:(p.aU (q.take k)).length<=12:=by omega
    have hmx:max ((p.fA (q.take k):Nat):Int) (it.page.aL:Nat)=((max (p.fA (q.take k)) it.page.aL:Nat):Int):=by omega
    rw[Wd.out] at*;go_wp2_with (at_builtin;refine aO _ rfl _ _ 258 rfl w1.heap.size 194 iH _ 2 24 underlying258 hiH.out Xu.out Xt.out Xs.out rfl (by decide) _ _ _ rfl VR.out ⟨w5.heap.size,0,none⟩ 1 1 [av it.page.id,str (bW it.page)] rfl rfl (λj u hu=>?cells) ?one (by unfold maxLen;omega) (by omega) (by simp;omega) ?next)
    case cells=>
     match j,hu with
     | 0,hu=>exact((aj.new w5 _ _).cell 0).trans hu
     | 1,hu=>exact((aj.new w5 _ _).cell 1).trans hu
     | j+2,hu=>simp at hu
    case one=>
     intro u hu;simp only[zW,zak,or_false] at hu;rcases hu with rfl | rfl<;>rfl
    case next=>
     intro v6 w6 oL jI _;have gM:=(((tL.out.below cS tL.out.lt).below hba (by have:=(tL.out.below cS tL.out.lt).lt;exact this))).grown jI (λe=>dI VR.out ((tL.out.below cS tL.out.lt).below hba (by have:=(tL.out.below cS tL.out.lt).lt;exact this)) (by decide) e.symm);have z3':=gM.cell 3;simp only[aQ,zGA,zGB,zGC] at z3';have iA:aa bM bM w1 w6:=by
      have h1:=(iV.next hba).grown jI (λb hb=>.inr (VR.out.lt b hb).1);exact h1
     obtain⟨g6,c6,rfl⟩:=bP oL (by omega);have NP:=zH oL;clear oL jI gM VR hba tL;go_wp2_with fail;go_roundw
     case rel=>
      refine⟨k+1,_,_,c6,hmeas,rfl,by rw[Dg.out];simp,?_,by rw[Kq.out],by go_num,iA⟩;rw[Dg.out,zo,Db];exact NP.out
     case measure=>simp[intOf];omega
  ·obtain rfl:k=q.length:=by omega
   rw[zL] at HO Wd ⊢;clear bB H2;have hn1:1<=(p.aU q).length:=List.length_pos_iff.2 HDI.out;have hdn0:((n5:Int)==0)=false:=by have:=Wd.out;simp;omega
   obtain⟨gh,ch,Mu⟩:=bP HO.out hn1;injection Mu with e1 e2 e3;subst e1 e2 e3;have HLG:=zH (HLG1.out.keep (λb hb=>htr.block b (HLG1.out.dA b hb) (λe=>e)));have SN:=zH (HDK1.out.keep (λb hb=>htr.block b (HDK1.out.dA b hb) (λe=>e)));have H2:=zH (H1.out.keep htr.size (λb hb=>htr.block b (H1.out.lt b hb) (λe=>e)));obtain⟨c0,c1,c2,c3,c4,SK,c6,c7⟩:=H2.out.cells;have GA:((p.aU q).length==0)=false:=by simp;exact HDI.out
   have hd2:¬p.aU q=[]:=HDI.out;have hTW:aa (λb=>cj F D G b\/b=gx) (λb=>cj F D G b\/b=gx) w wr:=
    (uH.out.fw (λb hb=>.inr hb) (λb hb=>.inl hb)).trans (htr.fw (λb hb=>hb.elim) (λb hb=>.inl hb))
   have hs1:=uH.out.size;have NH:=htr.size;have NN:=zH hTW;clear c0 c2 c3 c4 SK c6 c7 hTW;by_cases qo:p.fA q<=l.next
   ·have HFO:=zH (BJ HLG.out SN.out mg.out.DG ok qo);go_wp2_with fail;refine HFO.out.mono ?_;rintro e w5 ⟨D5,rfl,hD5,VS,QV,iV⟩;have QU:=mg.out.dk.dA;have YW:=mg.out.lg.dA;have Um:=mg.out.pl.lt;have Kr:=bH HO.out (w':=w5) (λb hb=>iV.block b (HO.out.lt b hb).2 (λe=>by
     have:=(HO.out.lt b hb).1;rcases e with e | e
     ·have:=YW b e;omega
     ·have:=QU b e;omega))
    have H5:=zH (H2.out.keep iV.size (λb hb=>iV.block b (H2.out.lt b hb) (λe=>e.elim (mg.out.FG b hb) (mg.out.FD b hb))));obtain⟨c0,c1',c2,c3,c4,SK,c6,c7⟩:=H5.out.cells;have hsp:=Sp.Dk.j5 ok.loose ok.bk HLG.out.wf (p.fA q);have B0:=eX Kr;have hpp:∀x∈p.aU q,x.1<4294967296/\x.2.length=512/\Sp.inside (d.bA l (p.fA q)).sure.length at_ base x.1:=λx hx=>by
     obtain⟨hx1,it,hf,_,hx2⟩:=Sp.Pl.ju hx;obtain⟨i1,i2,_⟩:=tS.out x.1 hx1;rw[hsp.2.2.1,hx2];exact⟨i1,iF (H5.out.wf.pg it (Sp.Pl.bu hf).1).2,i2⟩
    have hTWR:=wW (w:=w5.drew) (c:=c5) (hD5.below (Below.refl _ w5).drew) hsp.2.1 (by rw[hsp.1];simp) at_ base B0 hn1 H8.out hpp (by rw[Sp.Pl.jv];exact HND.out.filter _) (by rw[hsp.2.2.1];exact ok.bO) (by rw[hsp.2.2.1];exact ok.homes);have HTWR:=zH hTWR;have hS:=zH (show w5.drew.cell? ⟨gp,0,none⟩=some (ptr gd)/\w5.drew.cell? ⟨gp,2,none⟩=some (.int .i64 at_)/\w5.drew.cell? ⟨gp,3,none⟩=some (.int .i64 base) from⟨c0,c2,c3⟩);have HO5:=zH Kr;have Bi:=zH iV;have HG5:=zH VS;have hsz5:=iV.size;clear c0 c1' c2 c3 c4 SK c6 c7 hsp B0 hpp hTWR hD5 Kr iV VS HFO c1;go_wp2_with fail;refine fQ (λW=>zC W gp 0 (ptr gd)/\zC W gp 2 (.int .i64 at_)/\zC W gp 3 (.int .i64 base)) (λj=>decide (13<=j)) ?_
    repeat (refine bK hS.out ?_)
    refine aI 13 85 (w':=w5.drew) rfl rfl (by rfl) (by kernel_rfl) ?_ HTWR.out ?_
    ·go_simp
    rintro e w6 ⟨D6,rfl,hD6,iA⟩;refine⟨_,rfl,(λh=>nomatch h),?_⟩;simp only[zSA,zSB,zSC];refine fe 14 13 (v:=.int .i64 0) (w':=w6) rfl (by go_simp) (λh=>nomatch h) ?_;refine aC (by kernel_rfl) ?_ _;rename_i K9 aT;refine aT _ _ ?_;clear aT hS HTWR;have YY:∀b,D6 b->D b\/wr.heap.size<=b:=λb hb=>by
     rcases iA.foot b hb with h | h
     ·exact QV b h
     ·exact .inr (zl hsz5 h)
    have hF6:∀b,F b->¬D5 b:=λb hF hD=>by
     rcases QV b hD with h | h
     ·exact mg.out.FD b hF h
     ·have:=Um b hF;omega
    have I3:∀b,G b->¬D5 b:=λb hF hD=>by
     rcases QV b hD with h | h
     ·exact mg.out.DG b h hF
     ·have:=YW b hF;omega
    replace iA:aa D5 D6 w5 w6:=⟨iA.os,iA.tape,iA.output,iA.size,iA.block,iA.foot⟩;have hO6:=bH HO5.out (w':=w6) (λb hb=>iA.block b (HO5.out.lt b hb).2 (λe=>by
     have h1:=(HO.out.lt b hb);rcases QV b e with h | h
     ·have:=QU b h;omega
     ·omega))
    have H6:=zH (H5.out.keep iA.size (λb hb=>iA.block b (H5.out.lt b hb) (hF6 b hb)));have HG6:=zH (HG5.out.keep (λb hb=>iA.block b (HG5.out.dA b hb) (I3 b hb)));have HD6:=zH hD6;have hTW6:aa (λb=>cj F D G b\/b=gx) (λb=>cj F D6 G b\/b=gx) w w6:=by
     refine⟨iA.os.trans (Bi.out.os.trans NN.out.os),iA.tape.trans (Bi.out.tape.trans NN.out.tape),iA.output.trans (Bi.out.output.trans NN.out.output),by have:=iA.size;omega,λb hb hn=>?_,λb hb=>?_⟩
     ·rw[iA.block b (by omega) (λe=>by
       rcases QV b e with h | h
       ·exact hn (.inl (.inr (.inl h)))
       ·omega),Bi.out.block b (by omega) (λe=>hn (e.elim (λh=>.inl (.inr (.inr h))) (λh=>.inl (.inr (.inl h)))))]
      exact NN.out.block b hb hn
     ·rcases hb with(h | h | h) | h
      ·exact .inl (.inl (.inl h))
      ·rcases YY b h with h | h
       ·exact .inl (.inl (.inr (.inl h)))
       ·exact .inr (by omega)
      ·exact .inl (.inl (.inr (.inr h)))
      ·exact .inl (.inr h)
    have HTW6:=zH hTW6;have NP:=zH hO6;have hgh1:=(HO.out.lt gh rfl);have hFgh:¬F gh:=λe=>by have:=Um gh e;omega
    have hFz:∀b,F b->b<w.heap.size:=Um;have hs6:=iA.size;clear hTW6 hO6 hD6 iA Bi HO5 H5 HG5 NN;go_wp2_with fail;go_loopw [91] (λi wx=>∃(j:Nat) (csj:Array Value),j<=(p.aU q).length/\i=.int .i64 j/\aH F R wx gp gd gl at_ base fb cb mb v s r csj fl ids (p.mW (((p.aU q).take j).map (·.1)))/\aa F F w6 wx) (λi _=>(p.aU q).length-(intOf i).toNat)
    case atStart=>exact⟨0,cs,by omega,rfl,by simpa[Sp.Pl.N0] using H6.out,aa.refl _ _⟩
    case round=>
     obtain⟨j,csj,hj,rfl,hpj,Gw⟩:=hrel;by_cases hlt:j<(p.aU q).length
     ·have hOj:=bH NP.out (w':=wr) (λb hb=>Gw.block b (NP.out.lt b hb).2 (λe=>by
       have e2:b=gh:=by simpa[Value.ownBlock,eq_comm] using hb
       exact hFgh (e2▸e)))
      have hat:=Qj hlt;have r0:=hOj.cells (g:=gh) rfl _ _ hat.1;have r1:=hOj.cells (g:=gh) rfl _ _ hat.2;rw[add_lit] at r0 r1;obtain⟨hx1,it0,hf0,hdt,hx2⟩:=Sp.Pl.ju (zw hlt);obtain⟨hid,_,_⟩:=tS.out _ hx1;have hfj:=Sp.Pl.Bq p (((p.aU q).take j).map (·.1)) (p.aU q)[j].1;rw[hf0,zas] at hfj;have hws:Hid ((p.mW (((p.aU q).take j).map (·.1))).upd (p.aU q)[j].1 (λx=>{x with aK:=false,from_:=0})=p.mW (((p.aU q).take (j+1)).map (·.1))):=by
       show _=_;rw[Sp.Pl.Lj,zg hlt,zI];rfl
      obtain⟨it,uq⟩:∃it:Sp.It,it=if it0.page.id∈((p.aU q).take j).map (·.1) then{it0 with aK:=false,from_:=0} else it0:=⟨_,rfl⟩
      rw[<-uq] at hfj;have hmeas:j+1<=(p.aU q).length:=hlt;have hj8:=H8.out;clear hat hOj uq hf0 hdt hx2 hx1;generalize(p.aU q)[j]=xx at*;obtain⟨id,bts⟩:=xx;dsimp only at*;generalize p.mW (((p.aU q).take j).map (·.1))=pj at*;obtain⟨hit,rfl⟩:=Sp.Pl.bu hfj;have hba:=(zR wr).alloc (za _) (.cells #[av it.page.id,str bts] 194);have hpa:=hpj.keep hba.size (λb hb=>hba.block b (hpj.lt b hb));have Mv:=Gw.alloc (.cells #[av it.page.id,str bts] 194);have hxa:=aj.new wr 194 #[av it.page.id,str bts];go_wp2_with fail;obtain⟨w7,TJ⟩:=zE (wr.alloc (.cells #[av it.page.id,str bts] 194));rw[<-TJ] at hpa Mv hxa hba ⊢;obtain⟨g15,IP⟩:=zE wr.heap.size;rw[<-IP] at hxa ⊢;clear TJ IP r0 r1 hpj Gw;obtain⟨c0,c1',c2,c3,c4,SK,c6,c7⟩:=hpa.cells;have hlk:=(hpa.keep (w':=w7.drew) (za _) (λ_ _=>rfl)).look hid hfj;have vG:=hpa.wf.fp hit;have cx:=hxa.cell 0;simp only[zGA,zGC] at cx;have hS:=zH (show w7.drew.cell? ⟨gp,4,none⟩=some (.slice (some ⟨fb,0,none⟩) pj.n pj.n)/\w7.drew.cell? ⟨gp,6,none⟩=some (.map (some mb))/\w7.drew.cell? ⟨g15,0,none⟩=some (av it.page.id)/\
       (Instr.lookup 216 (.map (some mb)) (av it.page.id) false).run prog w7.drew=.ok (.int .i64 it.idx) w7.drew from⟨c4,c6,cx,hlk⟩)
      clear c0 c1' c2 c3 c4 SK c6 c7 cx hlk;refine eV (λW=>zC W gp 4 (.slice (some ⟨fb,0,none⟩) pj.n pj.n)/\zC W gp 6 (.map (some mb))/\zC W g15 0 (av it.page.id)/\
       (Instr.lookup 216 (.map (some mb)) (av it.page.id) false).run prog W=.ok (.int .i64 it.idx) W) (λ_=>false) rfl ?_
      repeat (refine bK hS.out ?_)
      refine aC (by kernel_rfl) ?_ _;rename_i K9 aT;refine aT _ _ ?_;clear aT hS;have Vo:=hpa.keep (w':=w7.drew) (za _) (λ_ _=>rfl);obtain⟨A9,c9,_,_,NK⟩:=Vo.fr.item it hit;have k7:=(Vo.fr.blk.cell (it.idx*9+7)).trans (NK 7 (by omega));have k8:=(Vo.fr.blk.cell (it.idx*9+8)).trans (NK 8 (by omega));simp only[aQ,zGB,zGC] at k7 k8;have z7:=Vo.lD (it.idx*9+7);have z8:=Vo.lD (it.idx*9+8);have vR:=Vo.foot.2.1;have HWA:=zH (Vo.WA hit);have HTA:=zH (((Mv.drew).setCell (p:=⟨fb,it.idx*9+7,none⟩) (.inl vR) (.bool false)).setCell (p:=⟨fb,it.idx*9+8,none⟩) (.inl vR) (.int .u64 0));rw[hws.out] at HWA;obtain⟨w8,Kf⟩:=zE w7.drew;rw[<-Kf] at k7 k8 z7 z8 HWA HTA ⊢;clear Kf Vo hpa Mv NK hba hxa;go_wp2_with fail;go_roundw
      case rel=>exact⟨j+1,_,hmeas,by go_num,HWA.out,HTA.out⟩
      case measure=>simp[intOf];omega
     ·obtain rfl:j=(p.aU q).length:=by omega
      rw[zL] at hpj;have HPJ:=zH hpj;have hGn:∀b,D6 b->¬G b:=λb hD hG=>by
       rcases YY b hD with h | h
       ·exact mg.out.DG b h hG
       ·have:=YW b hG;omega
      have hFn:∀b,F b->¬D6 b:=λb hF hD=>by
       rcases YY b hD with h | h
       ·exact mg.out.FD b hF h
       ·have:=Um b hF;omega
      have HD9:=zH (HD6.out.keep (λb hb=>Gw.block b (HD6.out.dA b hb) (λhF=>hFn b hF hb)));have Wi:=zH (HG6.out.keep (λb hb=>Gw.block b (HG6.out.dA b hb) (λhF=>mg.out.FG b hF hb)));have HTJ:=zH (HTW6.out.trans (Gw.fw (F:=λb=>cj F D6 G b\/b=gx) (F':=λb=>cj F D6 G b\/b=gx) (λb hb=>.inl (.inl hb)) (λb hb=>.inl hb)));clear hpj Gw;go_wp2_with fail;go_ret;exact⟨0,D6,_,_,_,_,rfl,.inr (.inr ⟨HDI.out,qo,rfl,rfl,rfl,rfl⟩),λh=>absurd rfl h,⟨HPJ.out,HD9.out,Wi.out,hFn,mg.out.FG,hGn⟩,HTJ.out⟩
   ·have HFO:=zH (Az HLG.out (Nat.lt_of_not_le qo));have hdt:decide (l.next<p.fA q)=true:=by rw[zA];omega
    go_wp2_with fail;refine HFO.out.mono ?_;rintro e w5 ⟨rfl,cS⟩;have h5p:=zH (H2.out.keep cS.size (λb hb=>cS.block b (H2.out.lt b hb)));have h5d:=zH (SN.out.below cS);have h5g:=zH (HLG.out.below cS);have h5t:=zH (NN.out.trans (aa.az cS _));clear cS;go_wp2_with fail;go_ret;exact⟨2,D,cs,p,d,l,rfl,.inr (.inl ⟨HDI.out,by omega,rfl,rfl,rfl,rfl⟩),λ_=>rfl,⟨h5p.out,h5d.out,h5g.out,mg.out.FD,mg.out.FG,mg.out.DG⟩,h5t.out⟩
theorem Sp.Pl.Rt {p:Sp.Pl} (hin:∀n∈q,∃it,p.find n=some it) (h:p.aU q=[]):∀n∈q,∃it,p.find n=some it/\it.aK=false:=λn hn=>by
 obtain⟨it,hf⟩:=hin n hn;refine⟨it,hf,?_⟩;have h2:q.filter p.jR=[]:=by
  have:=congrArg (List.map (·.1)) h
  rwa [Sp.Pl.jv] at this
 have:=List.filter_eq_nil_iff.1 h2 n hn;unfold Sp.Pl.jR at this;rw[hf] at this;simpa using this
theorem uT {F D G R:af} {w:World} {at_ base:Nat} {cs:Array Value} {p:Sp.Pl} {d:Sp.Dk} {l:Sp.Lg} (h:Mem F D G R w gp gd gl at_ base fb cb mb v s r cs fl ids p d l) (ok:Nw at_ base d l)
 {ql:List Nat} {gx:Nat} {xs:Array Value} (hb:aj w gx 61 xs) (hgx:¬cj F D G gx) (hl:ql.length<=12) (hxs:∀j,j<ql.length->xs[j]? =some (av ql[j]!))
 (hin:∀n∈ql,n<4294967296/\Sp.inside d.sure.length at_ base n/\∃it,p.find n=some it) (hnd:ql.Nodup) (h8:(p.aU (Sp.sorted ql)).length<=8):
 Calls prog 146 #[ptr gp,.slice (some ⟨gx,0,none⟩) ql.length cap] w (KR F D G R w gp gd gl at_ base fb cb mb v s r fl ids p d l gx (Sp.sorted ql)):=by
 by_cases BV:p.aU (Sp.sorted ql)=[]
 ·have eY:=(Sp.aX ql).1;have hc:=Sp.Pl.Rt (λn hn=>(hin n (eY.mem_iff.1 hn)).2.2) BV;refine(sF h.pl hb (λe=>hgx (.inl e)) hl hxs (λn hn=>⟨(hin n hn).1,hc n (eY.mem_iff.2 hn)⟩)).mono ?_;rintro e w' ⟨rfl,ht⟩;have hk:∀b,cj F D G b->b<w.heap.size->w'.heap[b]? =w.heap[b]? :=λb hb hlt=>ht.block b hlt (λe=>hgx (by have e:b=gx:=e;rw[<-e];exact hb));exact⟨0,D,cs,p,d,l,rfl,.inl ⟨BV,rfl,rfl,rfl,rfl⟩,λ_=>rfl,⟨h.pl.keep ht.size (λb hb=>hk b (.inl hb) (h.pl.lt b hb)),h.dk.keep (λb hb=>hk b (.inr (.inl hb)) (h.dk.dA b hb)),h.lg.keep (λb hb=>hk b (.inr (.inr hb)) (h.lg.dA b hb)),h.FD,h.FG,h.DG⟩,
   ht.fw (λb hb=>.inr hb) (λb hb=>.inl hb)⟩
 ·exact sD h ok hb hgx hl hxs hin hnd h8 BV
end
end Go.Proofs.YtfpjlkdklgokiaaGreat
