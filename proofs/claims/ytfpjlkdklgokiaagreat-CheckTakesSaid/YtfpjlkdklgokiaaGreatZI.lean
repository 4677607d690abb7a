/- A part of the proof of CheckTakes. -/
import Derived.Carry
import Derived.Deep.CutBlock
import Derived.LoopN
import Derived.MapKept
import Derived.WideMake
import Derived.Test.YtfpjlkdklgokiaaGreatZD
namespace Go.Proofs.YtfpjlkdklgokiaaGreat
set_option maxRecDepth 100000
set_option maxHeartbeats 40000000
open Go.RowKit
open Go.Proofs.Tryz
variable {n g k gp gd c gl i id b s r cb mb fb cd h N m fuel j ct p B cap sz gr z gt x aL:Nat} {v c1 c2 c3 c0 c5 c4:Value} {w' W:World} {A D T:Option Addr} {a:Act} {ids q fl l rest:List Nat} {xs fs:List Value} {o oi:Oper} {listed:Array Bool} {P:Program} {e t:TypeId} {args cs' buf:Array Value} {tm:Bool}
theorem Sp.le_total:∀{l:List Sp.Bs} {r:Sp.Bs},r∈l->r.length<=Sp.total l
 | x::l,r,h=>by
  rw[Sp.rq];rcases zW.1 h with rfl | h
  ·omega
  ·have:=Sp.le_total h;omega
theorem addr_add (b o k:Nat):(⟨b,o,none⟩:Addr).add k=⟨b,o+k,none⟩:=by unfold Addr.add;split<;>simp_all
structure Sp.Rec where
 kind:Nat
 tx:Nat
 prev:Nat
 rp:Nat
 rs:Nat
 next:Nat
 number:Nat
 body:Sp.Bs
 nd:Nat
 nt:Nat
 pM:Nat
 gi:Nat
 deriving DecidableEq
structure Sp.Rec.Ok (r:Sp.Rec):Prop where
 kind:r.kind<256
 tx:r.tx<18446744073709551616
 prev:r.prev<18446744073709551616
 rp:r.rp<4294967296
 rs:r.rs<65536
 next:r.next<18446744073709551616
 number:r.number<18446744073709551616
 body:r.body.length<=100000000
 nd:r.nd<=100000000
 nt:r.nt<=100000000
def ai (r:Sp.Rec) (D T:Option Addr) (cd ct:Nat):Array Value:=#[.int .u8 r.kind,.int .u64 r.tx,.int .u64 r.prev,.int .u32 r.rp,.int .u16 r.rs,.int .u64 r.next,.int .u64 r.number,str r.body,.slice D r.nd cd,.slice T r.nt ct,.int .u64 r.pM,.int .u64 r.gi]
abbrev cE (r:Sp.Rec) (D T:Option Addr) (cd ct:Nat):Value:=.agg (ai r D T cd ct)
def Sp.Rec.check (r:Sp.Rec):Bool:=r.kind==7||r.kind==8
def Sp.Rec.nobody (r:Sp.Rec):Bool:=r.tx==0
def Sp.Rec.early (r:Sp.Rec):Bool:=(r.check&& !r.nobody)||(r.nobody&&(r.prev != 0||(!r.check&&r.kind != 6)))
def Sp.Rec.fZ (r:Sp.Rec):Bool:=decide (1<=r.body.length)&&decide (r.body.length<=3072)
def Sp.Rec.fits (r:Sp.Rec):Bool:= !r.early&&(if r.kind=1\/r.kind=5\/r.kind=7 then true else if r.kind=2 then r.fZ&&(decide (0<r.rp)||r.rs==0) else if r.kind=6 then r.fZ else if r.kind=3 then r.fZ else if r.kind=4 then r.fZ&&decide (0<r.number) else false)
def Sp.Rec.head (r:Sp.Rec):Sp.Bs:=Sp.be 1 r.kind++Sp.be 8 r.tx++Sp.be 8 r.prev
def Sp.Rec.bytes (r:Sp.Rec):Sp.Bs:=if r.kind=2 then r.head++Sp.be 4 r.rp++Sp.be 2 r.rs++r.body else if r.kind=6 then r.head++r.body else if r.kind=3 then r.head++Sp.be 8 r.next++r.body else if r.kind=4 then r.head++Sp.be 8 r.number++r.body else r.head
theorem dz (n size:Nat) (w:World) (h1:1<=size) (h8:size<=8) (hn:n<256 ^ size) (lZ:n<18446744073709551616):
 Calls prog 183 #[.int .u64 n,.int .i64 size] w λe w'=>e=.returned (str (Sp.be size n))/\zB w w':=by
 have HP:=zH (d_ n size w h1 h8 hn lZ);go_enter func183,ntmps183;go_wp2_with fail;refine HP.out.mono ?_;rintro e w1 ⟨rfl,hb⟩;go_wp2_with fail;go_ret;exact⟨rfl,hb⟩
theorem xw:(prog.info? 84).map (·.size)=some 12:=by kernel_rfl
theorem bY {r:Sp.Rec} (h:aj W g 84 (ai r D T cd ct)):
 (loadVar 84 ⟨g,0,none⟩).run prog W=.ok (cE r D T cd ct) W:=
 run_loadVar_row W g _ _ _ _ _ h underlying84 rfl rfl
theorem eB {c6 c7 c8 c9 c10 c11:Value} {r:Sp.Rec} (h:aj W g 84 #[c0,c1,c2,c3,c4,c5,c6,c7,c8,c9,c10,c11]):
 (storeVar 84 ⟨g,0,none⟩ (cE r D T cd ct)).run prog W=.ok () (W.setRow g (ai r D T cd ct)):=
 ax W g 0 _ _ _ _ h xw (by show 0+12<=12;omega) (by simp[ai,Value.oneCell'])
theorem BB {w:World} {r:Sp.Rec} (ho:r.Ok) (h8:r.kind≠8):
 Calls prog 115 #[cE r D T cd ct] w λe w'=>∃s,e=.returned (.tuple #[str s,.bool r.fits])/\(r.fits=true->s=r.bytes)/\zB w w':=by
 have aM:=aj.new w 84 (ai r D T cd ct);have hb1:=(zR w).alloc (za _) (.cells (ai r D T cd ct) 84);have Gy:=ho.kind;have hbd:=ho.body;have H8:=zH h8;go_enter func115,ntmps115;go_upto_region 1 with fail;change Code.wp _ _ _ _ (w.alloc (.cells (ai r D T cd ct) 84));generalize w.alloc (.cells (ai r D T cd ct) 84)=w1 at aM hb1 ⊢;have c0:=aM.cell 0;have c1:=aM.cell 1;have c2:=aM.cell 2;have c3:=aM.cell 3;have c4:=aM.cell 4;have c5:=aM.cell 5;have c6:=aM.cell 6;have c7:=aM.cell 7;simp only[ai,zGA,zGB,zGC] at c0 c1 c2 c3 c4 c5 c6 c7;clear h8;go_cut [4] from 8 to 15 (λv wx=>v=.bool r.check/\w1=wx)
 case first=>
  by_cases h7:r.kind=7
  ·have q7:((r.kind:Int)==7)=true:=by simp[h7]
   have HC:=zH (show r.check=true by unfold Sp.Rec.check;simp[h7]);replace h7:=zH h7;go_wp2_with fail;go_meet
   case rel=>exact⟨by rw[HC.out],rfl⟩
  ·have q7:((r.kind:Int)==7)=false:=by rw[zv];omega
   have q8:((r.kind:Int)==8)=false:=by have:=H8.out;rw[zv];omega
   have HC:=zH (show r.check=false by unfold Sp.Rec.check;simp[h7,H8.out]);go_wp2_with fail;go_meet
   case rel=>exact⟨by rw[HC.out],rfl⟩
 case rest=>
 rename_i K8 iO;refine iO _ _ ?_;clear iO;obtain⟨rfl,rfl⟩:=hcut;have qn:((r.tx:Int)==0)=r.nobody:=by unfold Sp.Rec.nobody;rw[Bool.eq_iff_iff];simp
 go_upto_region 3 with fail;have qp:((r.prev:Int) != 0)=(r.prev != 0):=by rw[Bool.eq_iff_iff];simp
 have q6:((r.kind:Int) != 6)=(r.kind != 6):=by rw[Bool.eq_iff_iff];simp;omega
 go_cut [40] from 19 to 40 (λv wx=>v=.bool r.early/\w1=wx)
 case first=>
  have HE:=zH (show r.early=((r.check&& !r.nobody)||(r.nobody&&(r.prev != 0||(!r.check&&r.kind != 6)))) from rfl);clear qn;generalize r.check=ck at*;generalize r.nobody=nb at*;generalize TW:(r.prev != 0)=pv at*;generalize hk6:(r.kind != 6)=k6 at*;clear TW hk6
  cases ck<;>cases nb<;>cases pv
  all_goals
   go_wp2_with fail;go_meet
   case rel=>exact⟨by rw[HE.out];simp,rfl⟩
 case rest=>
 rename_i K8 iO;refine iO _ _ ?_;clear iO;obtain⟨rfl,rfl⟩:=hcut;clear qn qp q6
 cases he:r.early
 ·go_upto_region 5 with fail;go_cut [6] from 41 to 52 (λv wx=>v=str r.head/\zB w1 wx)
  case first=>
   have hcv:IntKind.u64.wrap (r.kind:Int)=(r.kind:Nat):=by simp[IntKind.wrap,IntKind.signed,IntKind.bits];omega
   have HG:=zH (show w.heap.size<w1.drew.heap.size from aM.lt);have tJ:=zH (za w1.drew.heap.size);have hS:=zH (show w1.drew.cell? ⟨w.heap.size,0,none⟩=some (.int .u8 r.kind)/\w1.drew.cell? ⟨w.heap.size,1,none⟩=some (.int .u64 r.tx)/\w1.drew.cell? ⟨w.heap.size,2,none⟩=some (.int .u64 r.prev) from⟨c0,c1,c2⟩);have tP:=Sp.aV 1 r.kind;have hl2:=Sp.aV 8 r.tx;have P6:=Sp.aV 8 r.prev;have HH:=zH (show r.head=Sp.be 1 r.kind++Sp.be 8 r.tx++Sp.be 8 r.prev from rfl);have P1:=zH fun(W:World)=>dz r.kind 1 W (by omega) (by omega) (by omega) (by omega);have P2:=zH fun(W:World)=>dz r.tx 8 W (by omega) (by omega) ho.tx ho.tx;have P3:=zH fun(W:World)=>dz r.prev 8 W (by omega) (by omega) ho.prev ho.prev;generalize Sp.be 1 r.kind=b1 at*;generalize Sp.be 8 r.tx=b2 at*;generalize Sp.be 8 r.prev=b3 at*;clear c0 c1 c2 c3 c4 c5 c6 c7;refine fQ (λW=>zC W w.heap.size 0 (.int .u8 r.kind)/\zC W w.heap.size 1 (.int .u64 r.tx)/\zC W w.heap.size 2 (.int .u64 r.prev)) (λ_=>false) ?_
   repeat (refine bK hS.out ?_)
   refine aI 3 44 (w':=w1.drew) rfl rfl (by rfl) (by kernel_rfl) ?_ (P1.out _) ?_
   ·go_simp
   rintro e w2 ⟨rfl,hw2⟩;have e9:=zH (show w2.cell? ⟨w.heap.size,0,none⟩=some (.int .u8 r.kind)/\w2.cell? ⟨w.heap.size,1,none⟩=some (.int .u64 r.tx)/\w2.cell? ⟨w.heap.size,2,none⟩=some (.int .u64 r.prev) from⟨(hw2.cell (p:=⟨w.heap.size,_,none⟩) (show w.heap.size<_ from zf HG.out tJ.out)).trans hS.out.1,(hw2.cell (p:=⟨w.heap.size,_,none⟩) (show w.heap.size<_ from zf HG.out tJ.out)).trans hS.out.2.1,(hw2.cell (p:=⟨w.heap.size,_,none⟩) (show w.heap.size<_ from zf HG.out tJ.out)).trans hS.out.2.2⟩);have jg:=zH (zl tJ.out hw2.size);refine⟨_,rfl,λ_=>e9.out,?_⟩;simp only[zSA,zSB,zSC];refine aI 6 47 (w':=w2) rfl rfl (by rfl) (by kernel_rfl) ?_ (P2.out _) ?_
   ·go_simp
   rintro e w3 ⟨rfl,hw3⟩;have fO:=zH (show w3.cell? ⟨w.heap.size,0,none⟩=some (.int .u8 r.kind)/\w3.cell? ⟨w.heap.size,1,none⟩=some (.int .u64 r.tx)/\w3.cell? ⟨w.heap.size,2,none⟩=some (.int .u64 r.prev) from⟨(hw3.cell (p:=⟨w.heap.size,_,none⟩) (show w.heap.size<_ from zf HG.out jg.out)).trans e9.out.1,(hw3.cell (p:=⟨w.heap.size,_,none⟩) (show w.heap.size<_ from zf HG.out jg.out)).trans e9.out.2.1,(hw3.cell (p:=⟨w.heap.size,_,none⟩) (show w.heap.size<_ from zf HG.out jg.out)).trans e9.out.2.2⟩);have vX:=zH (zl jg.out hw3.size);refine⟨_,rfl,λ_=>fO.out,?_⟩;simp only[zSA,zSB,zSC]
   repeat (refine bK fO.out ?_)
   refine aI 10 51 (w':=w3) rfl rfl (by rfl) (by kernel_rfl) ?_ (P3.out _) ?_
   ·go_simp
   rintro e w4 ⟨rfl,hw4⟩;have QK:=zH (show w4.cell? ⟨w.heap.size,0,none⟩=some (.int .u8 r.kind)/\w4.cell? ⟨w.heap.size,1,none⟩=some (.int .u64 r.tx)/\w4.cell? ⟨w.heap.size,2,none⟩=some (.int .u64 r.prev) from⟨(hw4.cell (p:=⟨w.heap.size,_,none⟩) (show w.heap.size<_ from zf HG.out vX.out)).trans fO.out.1,(hw4.cell (p:=⟨w.heap.size,_,none⟩) (show w.heap.size<_ from zf HG.out vX.out)).trans fO.out.2.1,(hw4.cell (p:=⟨w.heap.size,_,none⟩) (show w.heap.size<_ from zf HG.out vX.out)).trans fO.out.2.2⟩);have HZw4:=zH (zl vX.out hw4.size);refine⟨_,rfl,λ_=>QK.out,?_⟩;simp only[zSA,zSB,zSC]
   repeat (refine bK QK.out ?_)
   refine aC (by kernel_rfl) ?_ _;rename_i J9 K9 MU aT;refine aT _ _ ?_;clear aT;go_meet
   case rel=>exact⟨by rw[HH.out,aP,aP],((zR _).drew.trans hw2).trans ((hw3.mono hw2.size).trans (hw4.mono (zl hw2.size hw3.size)))⟩
  case rest=>
  rename_i K8 iO;refine iO _ _ ?_;clear iO;obtain⟨rfl,Dc⟩:=hcut;have fN:=hb1.trans (Dc.mono hb1.size);have jq:=aM.below Dc aM.lt;have kW:=jq.lt;clear c0 c1 c2 c3 c4 c5 c6 c7 Dc aM hb1;have c0:=jq.cell 0;have c3:=jq.cell 3;have c4:=jq.cell 4;have c5:=jq.cell 5;have c6:=jq.cell 6;have c7:=jq.cell 7;simp only[ai,zGA,zGB,zGC] at c0 c3 c4 c5 c6 c7;have hhl:r.head.length=17:=by unfold Sp.Rec.head;simp
  have HE:=zH he;obtain⟨hd,Ye⟩:∃hd,r.head=hd:=⟨_,rfl⟩;rw[Ye] at hhl ⊢;have HH:=zH Ye;clear Ye he jq;go_upto_region 6 with fail;go_cut [7] from 53 to 62 (λv wy=>v=.bool r.fZ/\wc=wy)
  case first=>
   by_cases h1:1<=r.body.length
   ·have d1:decide ((1:Int)<=(r.body.length:Int))=true:=by simp;omega
    by_cases h2:r.body.length<=3072
    ·have d2:decide ((r.body.length:Int)<=3072)=true:=by simp;omega
     have HC:=zH (show r.fZ=true by unfold Sp.Rec.fZ;rw[zbg h1,zbg h2];rfl);go_wp2_with fail;go_meet
     case rel=>exact⟨by rw[HC.out],rfl⟩
    ·have d2:decide ((r.body.length:Int)<=3072)=false:=by simp;omega
     have HC:=zH (show r.fZ=false by unfold Sp.Rec.fZ;rw[zbg h1,zay h2];rfl);go_wp2_with fail;go_meet
     case rel=>exact⟨by rw[HC.out],rfl⟩
   ·have d1:decide ((1:Int)<=(r.body.length:Int))=false:=by simp;omega
    have HC:=zH (show r.fZ=false by unfold Sp.Rec.fZ;rw[zay h1];rfl);go_wp2_with fail;go_meet
    case rel=>exact⟨by rw[HC.out],rfl⟩
  case rest=>
  rename_i K8 iO;refine iO _ _ ?_;clear iO;obtain⟨rfl,rfl⟩:=hcut;by_cases h1:r.kind=1
  ·have q1:((r.kind:Int)==1)=true:=by simp[h1]
   have HK:=zH h1;clear h1;have HF:=zH (show r.fits=true by unfold Sp.Rec.fits;rw[HE.out,HK.out];rfl);have qf:=zH (show r.bytes=hd by unfold Sp.Rec.bytes;rw[HK.out,HH.out];rfl);go_wp2_with fail
   go_ret2
   exact⟨_,by rw[HF.out];rfl,λ_=>by rw[qf.out],fN⟩
  have q1:((r.kind:Int)==1)=false:=by rw[zv];omega
  by_cases h5:r.kind=5
  ·have q5:((r.kind:Int)==5)=true:=by simp[h5]
   have HK:=zH h5;clear h5;have HF:=zH (show r.fits=true by unfold Sp.Rec.fits;rw[HE.out,HK.out];rfl);have qf:=zH (show r.bytes=hd by unfold Sp.Rec.bytes;rw[HK.out,HH.out];rfl);go_wp2_with fail
   go_ret2
   exact⟨_,by rw[HF.out];rfl,λ_=>by rw[qf.out],fN⟩
  have q5:((r.kind:Int)==5)=false:=by rw[zv];omega
  by_cases h7:r.kind=7
  ·have q7:((r.kind:Int)==7)=true:=by simp[h7]
   have HK:=zH h7;clear h7;have HF:=zH (show r.fits=true by unfold Sp.Rec.fits;rw[HE.out,HK.out];rfl);have qf:=zH (show r.bytes=hd by unfold Sp.Rec.bytes;rw[HK.out,HH.out];rfl);go_wp2_with fail
   go_ret2
   exact⟨_,by rw[HF.out];rfl,λ_=>by rw[qf.out],fN⟩
  have q7:((r.kind:Int)==7)=false:=by rw[zv];omega
  by_cases h2:r.kind=2
  ·have q2:((r.kind:Int)==2)=true:=by simp[h2]
   have HK:=zH h2;clear h2;go_upto_region 13 with fail;have hcv:IntKind.u64.wrap (r.rp:Int)=(r.rp:Nat):=by have:=ho.rp;simp[IntKind.wrap,IntKind.signed,IntKind.bits];omega
   have hcw:IntKind.u64.wrap (r.rs:Int)=(r.rs:Nat):=by have:=ho.rs;simp[IntKind.wrap,IntKind.signed,IntKind.bits];omega
   have vg:¬9223372036854775807<23+r.body.length:=by omega
   have tP:=Sp.aV 4 r.rp;have hl2:=Sp.aV 2 r.rs;have qf:=zH (show r.bytes=hd++Sp.be 4 r.rp++Sp.be 2 r.rs++r.body by unfold Sp.Rec.bytes;rw[zK HK.out,HH.out]);have P1:=zH fun(W:World)=>dz r.rp 4 W (by omega) (by omega) (by have:=ho.rp;omega) (by have:=ho.rp;omega);have P2:=zH fun(W:World)=>dz r.rs 2 W (by omega) (by omega) (by have:=ho.rs;omega) (by have:=ho.rs;omega);generalize Sp.be 4 r.rp=b1 at*;generalize Sp.be 2 r.rs=b2 at*;have HF:=zH (show r.fits=(r.fZ&&(decide (0<r.rp)||r.rs==0)) by unfold Sp.Rec.fits;rw[HE.out,HK.out];simp)
   cases YE:r.fZ
   ·rw[YE,Bool.false_and] at HF;have HG:=zH (show w.heap.size<wc.drew.heap.size from kW);have fj:=zH (za wc.drew.heap.size);have hS:=zH (show wc.drew.cell? ⟨w.heap.size,3,none⟩=some (.int .u32 r.rp)/\wc.drew.cell? ⟨w.heap.size,4,none⟩=some (.int .u16 r.rs)/\wc.drew.cell? ⟨w.heap.size,7,none⟩=some (str r.body) from⟨c3,c4,c7⟩);clear c3 c4 c5 c6 c7;refine fQ (λW=>zC W w.heap.size 3 (.int .u32 r.rp)/\zC W w.heap.size 4 (.int .u16 r.rs)/\zC W w.heap.size 7 (str r.body)) (λ_=>false) ?_
    repeat (refine bK hS.out ?_)
    refine aI 5 77 (w':=wc.drew) rfl rfl (by rfl) (by kernel_rfl) ?_ (P1.out _) ?_
    ·go_simp
    rintro e w2 ⟨rfl,hw2⟩;have e9:=zH (show w2.cell? ⟨w.heap.size,3,none⟩=some (.int .u32 r.rp)/\w2.cell? ⟨w.heap.size,4,none⟩=some (.int .u16 r.rs)/\w2.cell? ⟨w.heap.size,7,none⟩=some (str r.body) from⟨(hw2.cell (p:=⟨w.heap.size,_,none⟩) (show w.heap.size<_ from zf HG.out fj.out)).trans hS.out.1,(hw2.cell (p:=⟨w.heap.size,_,none⟩) (show w.heap.size<_ from zf HG.out fj.out)).trans hS.out.2.1,(hw2.cell (p:=⟨w.heap.size,_,none⟩) (show w.heap.size<_ from zf HG.out fj.out)).trans hS.out.2.2⟩);have jg:=zH (zl fj.out hw2.size);refine⟨_,rfl,λ_=>e9.out,?_⟩;simp only[zSA,zSB,zSC]
    repeat (refine bK e9.out ?_)
    refine aI 11 83 (w':=w2) rfl rfl (by rfl) (by kernel_rfl) ?_ (P2.out _) ?_
    ·go_simp
    rintro e w3 ⟨rfl,hw3⟩;have fO:=zH (show w3.cell? ⟨w.heap.size,3,none⟩=some (.int .u32 r.rp)/\w3.cell? ⟨w.heap.size,4,none⟩=some (.int .u16 r.rs)/\w3.cell? ⟨w.heap.size,7,none⟩=some (str r.body) from⟨(hw3.cell (p:=⟨w.heap.size,_,none⟩) (show w.heap.size<_ from zf HG.out jg.out)).trans e9.out.1,(hw3.cell (p:=⟨w.heap.size,_,none⟩) (show w.heap.size<_ from zf HG.out jg.out)).trans e9.out.2.1,(hw3.cell (p:=⟨w.heap.size,_,none⟩) (show w.heap.size<_ from zf HG.out jg.out)).trans e9.out.2.2⟩);have vX:=zH (zl jg.out hw3.size);refine⟨_,rfl,λ_=>fO.out,?_⟩;simp only[zSA,zSB,zSC]
    repeat (refine bK fO.out ?_)
    refine eP 18 90 rfl rfl (by rfl) (by kernel_rfl) (λ_ _ _ h=>h) fO.out ?_;simp only[zSA,zSB,zSC];refine eP 19 91 rfl rfl (by rfl) (by kernel_rfl) (λ_ _ _ h=>h) fO.out ?_;simp only[zSA,zSB,zSC];refine eP 20 92 rfl rfl (by rfl) (by kernel_rfl) (λ_ _ _ h=>h) fO.out ?_;simp only[zSA,zSB,zSC];refine eP 21 93 rfl rfl (by rfl) (by kernel_rfl) (λ_ _ _ h=>h) fO.out ?_;simp only[zSA,zSB,zSC];refine eP 22 94 rfl rfl (by rfl) (by kernel_rfl) (λ_ _ _ h=>h) fO.out ?_;simp only[zSA,zSB,zSC];refine eP 23 95 rfl rfl (by rfl) (by kernel_rfl) (λ_ _ _ h=>h) fO.out ?_;simp only[zSA,zSB,zSC];refine eP 24 96 rfl rfl (by rfl) (by kernel_rfl) (λ_ _ _ h=>h) fO.out ?_;simp only[zSA,zSB,zSC];refine eP 25 97 rfl rfl (by rfl) (by kernel_rfl) (λ_ _ _ h=>h) fO.out ?_;simp only[zSA,zSB,zSC];refine eP 26 98 rfl rfl (by rfl) (by kernel_rfl) (λ_ _ _ h=>h) fO.out ?_;simp only[zSA,zSB,zSC];refine eP 27 99 rfl rfl (by rfl) (by kernel_rfl) (λ_ _ _ h=>h) fO.out ?_;simp only[zSA,zSB,zSC]
    repeat (refine bK fO.out ?_)
    refine aC (by kernel_rfl) ?_ _;rename_i J9 K9 MU aT;refine aT _ _ ?_;clear aT;go_wp2_with fail
    go_ret2
    exact⟨_,by rw[HF.out];rfl,λ_=>by rw[qf.out];simp[aP],((fN.drew.trans (hw2.mono fN.drew.size)).trans (hw3.mono (zl fN.drew.size hw2.size)))⟩
   ·rw[YE,Bool.true_and] at HF;by_cases XS:0<r.rp
    ·have d1:decide ((0:Int)<(r.rp:Int))=true:=by simp;omega
     rw[zbg XS,Bool.true_or] at HF;have HG:=zH (show w.heap.size<wc.drew.heap.size from kW);have fj:=zH (za wc.drew.heap.size);have hS:=zH (show wc.drew.cell? ⟨w.heap.size,3,none⟩=some (.int .u32 r.rp)/\wc.drew.cell? ⟨w.heap.size,4,none⟩=some (.int .u16 r.rs)/\wc.drew.cell? ⟨w.heap.size,7,none⟩=some (str r.body) from⟨c3,c4,c7⟩);clear c3 c4 c5 c6 c7;refine fQ (λW=>zC W w.heap.size 3 (.int .u32 r.rp)/\zC W w.heap.size 4 (.int .u16 r.rs)/\zC W w.heap.size 7 (str r.body)) (λ_=>false) ?_
     repeat (refine bK hS.out ?_)
     refine aI 5 77 (w':=wc.drew) rfl rfl (by rfl) (by kernel_rfl) ?_ (P1.out _) ?_
     ·go_simp
     rintro e w2 ⟨rfl,hw2⟩;have e9:=zH (show w2.cell? ⟨w.heap.size,3,none⟩=some (.int .u32 r.rp)/\w2.cell? ⟨w.heap.size,4,none⟩=some (.int .u16 r.rs)/\w2.cell? ⟨w.heap.size,7,none⟩=some (str r.body) from⟨(hw2.cell (p:=⟨w.heap.size,_,none⟩) (show w.heap.size<_ from zf HG.out fj.out)).trans hS.out.1,(hw2.cell (p:=⟨w.heap.size,_,none⟩) (show w.heap.size<_ from zf HG.out fj.out)).trans hS.out.2.1,(hw2.cell (p:=⟨w.heap.size,_,none⟩) (show w.heap.size<_ from zf HG.out fj.out)).trans hS.out.2.2⟩);have jg:=zH (zl fj.out hw2.size);refine⟨_,rfl,λ_=>e9.out,?_⟩;simp only[zSA,zSB,zSC]
     repeat (refine bK e9.out ?_)
     refine aI 11 83 (w':=w2) rfl rfl (by rfl) (by kernel_rfl) ?_ (P2.out _) ?_
     ·go_simp
     rintro e w3 ⟨rfl,hw3⟩;have fO:=zH (show w3.cell? ⟨w.heap.size,3,none⟩=some (.int .u32 r.rp)/\w3.cell? ⟨w.heap.size,4,none⟩=some (.int .u16 r.rs)/\w3.cell? ⟨w.heap.size,7,none⟩=some (str r.body) from⟨(hw3.cell (p:=⟨w.heap.size,_,none⟩) (show w.heap.size<_ from zf HG.out jg.out)).trans e9.out.1,(hw3.cell (p:=⟨w.heap.size,_,none⟩) (show w.heap.size<_ from zf HG.out jg.out)).trans e9.out.2.1,(hw3.cell (p:=⟨w.heap.size,_,none⟩) (show w.heap.size<_ from zf HG.out jg.out)).trans e9.out.2.2⟩);have vX:=zH (zl jg.out hw3.size);refine⟨_,rfl,λ_=>fO.out,?_⟩;simp only[zSA,zSB,zSC]
     repeat (refine bK fO.out ?_)
     refine eP 23 95 rfl rfl (by rfl) (by kernel_rfl) (λ_ _ _ h=>h) fO.out ?_;simp only[zSA,zSB,zSC];refine eP 24 96 rfl rfl (by rfl) (by kernel_rfl) (λ_ _ _ h=>h) fO.out ?_;simp only[zSA,zSB,zSC];refine eP 25 97 rfl rfl (by rfl) (by kernel_rfl) (λ_ _ _ h=>h) fO.out ?_;simp only[zSA,zSB,zSC];refine eP 26 98 rfl rfl (by rfl) (by kernel_rfl) (λ_ _ _ h=>h) fO.out ?_;simp only[zSA,zSB,zSC]
     repeat (refine bK fO.out ?_)
     refine aC (by kernel_rfl) ?_ _;rename_i J9 K9 MU aT;refine aT _ _ ?_;clear aT;go_wp2_with fail
     go_ret2
     exact⟨_,by rw[HF.out];rfl,λ_=>by rw[qf.out];simp[aP],((fN.drew.trans (hw2.mono fN.drew.size)).trans (hw3.mono (zl fN.drew.size hw2.size)))⟩
    ·have d1:decide ((0:Int)<(r.rp:Int))=false:=by simp;omega
     have d2:((r.rs:Int)==0)=(r.rs==0):=by rw[Bool.eq_iff_iff];simp
     rw[zay XS,Bool.false_or] at HF;have HG:=zH (show w.heap.size<wc.drew.heap.size from kW);have fj:=zH (za wc.drew.heap.size);have hS:=zH (show wc.drew.cell? ⟨w.heap.size,3,none⟩=some (.int .u32 r.rp)/\wc.drew.cell? ⟨w.heap.size,4,none⟩=some (.int .u16 r.rs)/\wc.drew.cell? ⟨w.heap.size,7,none⟩=some (str r.body) from⟨c3,c4,c7⟩);clear c3 c4 c5 c6 c7;refine fQ (λW=>zC W w.heap.size 3 (.int .u32 r.rp)/\zC W w.heap.size 4 (.int .u16 r.rs)/\zC W w.heap.size 7 (str r.body)) (λ_=>false) ?_
     repeat (refine bK hS.out ?_)
     refine aI 5 77 (w':=wc.drew) rfl rfl (by rfl) (by kernel_rfl) ?_ (P1.out _) ?_
     ·go_simp
     rintro e w2 ⟨rfl,hw2⟩;have e9:=zH (show w2.cell? ⟨w.heap.size,3,none⟩=some (.int .u32 r.rp)/\w2.cell? ⟨w.heap.size,4,none⟩=some (.int .u16 r.rs)/\w2.cell? ⟨w.heap.size,7,none⟩=some (str r.body) from⟨(hw2.cell (p:=⟨w.heap.size,_,none⟩) (show w.heap.size<_ from zf HG.out fj.out)).trans hS.out.1,(hw2.cell (p:=⟨w.heap.size,_,none⟩) (show w.heap.size<_ from zf HG.out fj.out)).trans hS.out.2.1,(hw2.cell (p:=⟨w.heap.size,_,none⟩) (show w.heap.size<_ from zf HG.out fj.out)).trans hS.out.2.2⟩);have jg:=zH (zl fj.out hw2.size);refine⟨_,rfl,λ_=>e9.out,?_⟩;simp only[zSA,zSB,zSC]
     repeat (refine bK e9.out ?_)
     refine aI 11 83 (w':=w2) rfl rfl (by rfl) (by kernel_rfl) ?_ (P2.out _) ?_
     ·go_simp
     rintro e w3 ⟨rfl,hw3⟩;have fO:=zH (show w3.cell? ⟨w.heap.size,3,none⟩=some (.int .u32 r.rp)/\w3.cell? ⟨w.heap.size,4,none⟩=some (.int .u16 r.rs)/\w3.cell? ⟨w.heap.size,7,none⟩=some (str r.body) from⟨(hw3.cell (p:=⟨w.heap.size,_,none⟩) (show w.heap.size<_ from zf HG.out jg.out)).trans e9.out.1,(hw3.cell (p:=⟨w.heap.size,_,none⟩) (show w.heap.size<_ from zf HG.out jg.out)).trans e9.out.2.1,(hw3.cell (p:=⟨w.heap.size,_,none⟩) (show w.heap.size<_ from zf HG.out jg.out)).trans e9.out.2.2⟩);have vX:=zH (zl jg.out hw3.size);refine⟨_,rfl,λ_=>fO.out,?_⟩;simp only[zSA,zSB,zSC]
     repeat (refine bK fO.out ?_)
     refine aC (by kernel_rfl) ?_ _;rename_i J9 K9 MU aT;refine aT _ _ ?_;clear aT;go_wp2_with fail
     go_ret2
     exact⟨_,by rw[HF.out];rfl,λ_=>by rw[qf.out];simp[aP],((fN.drew.trans (hw2.mono fN.drew.size)).trans (hw3.mono (zl fN.drew.size hw2.size)))⟩
  have q2:((r.kind:Int)==2)=false:=by rw[zv];omega
  by_cases h6:r.kind=6
  ·have q6:((r.kind:Int)==6)=true:=by simp[h6]
   have HK:=zH h6;clear h6;have HF:=zH (show r.fits=r.fZ by unfold Sp.Rec.fits;rw[HE.out,HK.out];rfl);have qf:=zH (show r.bytes=hd++r.body by unfold Sp.Rec.bytes;rw[HK.out,HH.out];rfl);go_wp2_with fail
   go_ret2
   exact⟨_,by rw[HF.out];rfl,λ_=>by rw[qf.out],fN⟩
  have q6:((r.kind:Int)==6)=false:=by rw[zv];omega
  by_cases h3:r.kind=3
  ·have q3:((r.kind:Int)==3)=true:=by simp[h3]
   have HK:=zH h3;clear h3;go_upto_region 17 with fail;have vg:¬9223372036854775807<25+r.body.length:=by omega
   have tP:=Sp.aV 8 r.next;have qf:=zH (show r.bytes=hd++Sp.be 8 r.next++r.body by unfold Sp.Rec.bytes;rw[HK.out,HH.out];rfl);have P1:=zH fun(W:World)=>dz r.next 8 W (by omega) (by omega) ho.next ho.next;generalize Sp.be 8 r.next=b1 at*;have HF:=zH (show r.fits=r.fZ by unfold Sp.Rec.fits;rw[HE.out,HK.out];rfl);have HG:=zH (show w.heap.size<wc.drew.heap.size from kW);have fj:=zH (za wc.drew.heap.size);have hS:=zH (show wc.drew.cell? ⟨w.heap.size,5,none⟩=some (.int .u64 r.next)/\wc.drew.cell? ⟨w.heap.size,7,none⟩=some (str r.body) from⟨c5,c7⟩);clear c3 c4 c5 c6 c7;refine fQ (λW=>zC W w.heap.size 5 (.int .u64 r.next)/\zC W w.heap.size 7 (str r.body)) (λ_=>false) ?_
   repeat (refine bK hS.out ?_)
   refine aI 3 113 (w':=wc.drew) rfl rfl (by rfl) (by kernel_rfl) ?_ (P1.out _) ?_
   ·go_simp
   rintro e w2 ⟨rfl,hw2⟩;have e9:=zH (show w2.cell? ⟨w.heap.size,5,none⟩=some (.int .u64 r.next)/\w2.cell? ⟨w.heap.size,7,none⟩=some (str r.body) from⟨(hw2.cell (p:=⟨w.heap.size,_,none⟩) (show w.heap.size<_ from zf HG.out fj.out)).trans hS.out.1,(hw2.cell (p:=⟨w.heap.size,_,none⟩) (show w.heap.size<_ from zf HG.out fj.out)).trans hS.out.2⟩);have jg:=zH (zl fj.out hw2.size);refine⟨_,rfl,λ_=>e9.out,?_⟩;simp only[zSA,zSB,zSC]
   repeat (refine bK e9.out ?_)
   refine aC (by kernel_rfl) ?_ _;rename_i J9 K9 MU aT;refine aT _ _ ?_;clear aT;go_wp2_with fail
   go_ret2
   exact⟨_,by rw[HF.out];rfl,λ_=>by rw[qf.out];simp[aP],(fN.drew.trans (hw2.mono fN.drew.size))⟩
  have q3:((r.kind:Int)==3)=false:=by rw[zv];omega
  by_cases h4:r.kind=4
  ·have q4:((r.kind:Int)==4)=true:=by simp[h4]
   have HK:=zH h4;clear h4;go_upto_region 19 with fail;have vg:¬9223372036854775807<25+r.body.length:=by omega
   have tP:=Sp.aV 8 r.number;have qf:=zH (show r.bytes=hd++Sp.be 8 r.number++r.body by unfold Sp.Rec.bytes;rw[HK.out,HH.out];rfl);have P1:=zH fun(W:World)=>dz r.number 8 W (by omega) (by omega) ho.number ho.number;generalize Sp.be 8 r.number=b1 at*;have HF:=zH (show r.fits=(r.fZ&&decide (0<r.number)) by unfold Sp.Rec.fits;rw[HE.out,HK.out];rfl);have d1:decide ((0:Int)<(r.number:Int))=decide (0<r.number):=by rw[Bool.eq_iff_iff];simp
   cases YE:r.fZ
   ·rw[YE,Bool.false_and] at HF;have HG:=zH (show w.heap.size<wc.drew.heap.size from kW);have fj:=zH (za wc.drew.heap.size);have hS:=zH (show wc.drew.cell? ⟨w.heap.size,6,none⟩=some (.int .u64 r.number)/\wc.drew.cell? ⟨w.heap.size,7,none⟩=some (str r.body) from⟨c6,c7⟩);clear c3 c4 c5 c6 c7;refine fQ (λW=>zC W w.heap.size 6 (.int .u64 r.number)/\zC W w.heap.size 7 (str r.body)) (λ_=>false) ?_
    repeat (refine bK hS.out ?_)
    refine aI 3 124 (w':=wc.drew) rfl rfl (by rfl) (by kernel_rfl) ?_ (P1.out _) ?_
    ·go_simp
    rintro e w2 ⟨rfl,hw2⟩;have e9:=zH (show w2.cell? ⟨w.heap.size,6,none⟩=some (.int .u64 r.number)/\w2.cell? ⟨w.heap.size,7,none⟩=some (str r.body) from⟨(hw2.cell (p:=⟨w.heap.size,_,none⟩) (show w.heap.size<_ from zf HG.out fj.out)).trans hS.out.1,(hw2.cell (p:=⟨w.heap.size,_,none⟩) (show w.heap.size<_ from zf HG.out fj.out)).trans hS.out.2⟩);have jg:=zH (zl fj.out hw2.size);refine⟨_,rfl,λ_=>e9.out,?_⟩;simp only[zSA,zSB,zSC]
    repeat (refine bK e9.out ?_)
    refine eP 10 131 rfl rfl (by rfl) (by kernel_rfl) (λ_ _ _ h=>h) e9.out ?_;simp only[zSA,zSB,zSC];refine eP 11 132 rfl rfl (by rfl) (by kernel_rfl) (λ_ _ _ h=>h) e9.out ?_;simp only[zSA,zSB,zSC];refine eP 12 133 rfl rfl (by rfl) (by kernel_rfl) (λ_ _ _ h=>h) e9.out ?_;simp only[zSA,zSB,zSC]
    repeat (refine bK e9.out ?_)
    refine aC (by kernel_rfl) ?_ _;rename_i J9 K9 MU aT;refine aT _ _ ?_;clear aT;go_wp2_with fail
    go_ret2
    exact⟨_,by rw[HF.out];rfl,λ_=>by rw[qf.out];simp[aP],(fN.drew.trans (hw2.mono fN.drew.size))⟩
   ·rw[YE,Bool.true_and] at HF;have HG:=zH (show w.heap.size<wc.drew.heap.size from kW);have fj:=zH (za wc.drew.heap.size);have hS:=zH (show wc.drew.cell? ⟨w.heap.size,6,none⟩=some (.int .u64 r.number)/\wc.drew.cell? ⟨w.heap.size,7,none⟩=some (str r.body) from⟨c6,c7⟩);clear c3 c4 c5 c6 c7;refine fQ (λW=>zC W w.heap.size 6 (.int .u64 r.number)/\zC W w.heap.size 7 (str r.body)) (λ_=>false) ?_
    repeat (refine bK hS.out ?_)
    refine aI 3 124 (w':=wc.drew) rfl rfl (by rfl) (by kernel_rfl) ?_ (P1.out _) ?_
    ·go_simp
    rintro e w2 ⟨rfl,hw2⟩;have e9:=zH (show w2.cell? ⟨w.heap.size,6,none⟩=some (.int .u64 r.number)/\w2.cell? ⟨w.heap.size,7,none⟩=some (str r.body) from⟨(hw2.cell (p:=⟨w.heap.size,_,none⟩) (show w.heap.size<_ from zf HG.out fj.out)).trans hS.out.1,(hw2.cell (p:=⟨w.heap.size,_,none⟩) (show w.heap.size<_ from zf HG.out fj.out)).trans hS.out.2⟩);have jg:=zH (zl fj.out hw2.size);refine⟨_,rfl,λ_=>e9.out,?_⟩;simp only[zSA,zSB,zSC]
    repeat (refine bK e9.out ?_)
    refine aC (by kernel_rfl) ?_ _;rename_i J9 K9 MU aT;refine aT _ _ ?_;clear aT;go_wp2_with fail
    go_ret2
    exact⟨_,by rw[HF.out];rfl,λ_=>by rw[qf.out];simp[aP],(fN.drew.trans (hw2.mono fN.drew.size))⟩
  have q4:((r.kind:Int)==4)=false:=by rw[zv];omega
  have q8:((r.kind:Int)==8)=false:=by have:=H8.out;rw[zv];omega
  have HF:=zH (show r.fits=false by unfold Sp.Rec.fits;rw[HE.out];simp[h1,h5,h7,h2,h6,h3,h4]);clear h1 h2 h3 h4 h5 h6 h7;go_wp2_with fail
  go_ret2
  exact⟨_,by rw[HF.out];rfl,λh=>absurd (HF.out.symm.trans h) (by decide),fN⟩
 ·have hf:r.fits=false:=by unfold Sp.Rec.fits;rw[he];rfl
  go_wp2_with fail
  go_ret2
  exact⟨[],by rw[hf];rfl,λh=>absurd (hf.symm.trans h) (by decide),hb1⟩
open Go.RowKit
namespace Sp
structure bI.Fits (x:bI):Prop where
 dr:(x.d.map (·.1)).Pairwise (· < ·)
 d0:∀y∈x.d,0<y.1/\y.1<4294967296/\0<y.2/\y.2<18446744073709551616
 tr:(x.t.map (·.tx)).Pairwise (· < ·)
 t0:∀y∈x.t,0<y.tx/\y.tx<18446744073709551616/\0<y.first/\y.first<18446744073709551616/\0<y.last/\y.last<18446744073709551616/\y.next<18446744073709551616
 dl:x.d.length<=64
 tl:x.t.length<=64
 x0:0<x.tx
 n0:0<x.num
 x64:x.tx<18446744073709551616
 rV:x.num<18446744073709551616
def nP (l:List Nat) (k:Nat):Nat:=if k=0 then 0 else l[k-1]!
theorem EN (hr:l.Pairwise (· < ·)) (h0:∀y∈l,0<y) (hk:k<l.length):nP l k<l[k]:=by
 unfold nP
 split
 ·exact h0 _ (zw hk)
 ·rename_i h;rw[zG l (k-1) (by omega)];exact(za8.1 hr) (k-1) k (by omega) hk (by omega)
theorem xC (hk:k<l.length):nP l (k+1)=l[k]:=by
 unfold nP;rw[zD (by omega),Nat.add_sub_cancel,zG l k hk]
end Sp
theorem OI {G:af} {w:World} {x:Sp.bI} (h:bS G w x D T) (hf:x.Fits):
 Calls prog 185 #[iz x D T cd ct] w λe w'=>e=.returned (.bool true)/\zB w w':=by
 have hb1:=(zR w).alloc (za _) (.cells (bJ x D T cd ct) 36);have aM:=aj.new w 36 (bJ x D T cd ct);have h1:=h.below hb1;have HF:=zH hf;go_enter func185,ntmps185;go_upto_region 1 with fail;change Code.wp _ _ _ _ (w.alloc (.cells (bJ x D T cd ct) 36));generalize w.alloc (.cells (bJ x D T cd ct) 36)=w1 at hb1 aM h1 ⊢;have Gz:=hf.dl;have Gv:=hf.tl;have hx0:=hf.x0;have hn0:=hf.n0;obtain⟨dl,tl,tx,num⟩:=x;obtain⟨g1,hg1⟩:=zE w.heap.size;have qq:g1<w1.heap.size:=by rw[hg1];exact aM.lt
 rw[<-hg1] at aM ⊢;have HA:Hid (∀wr,zB w1 wr->zC wr g1 0 (.slice D dl.length cd)/\zC wr g1 1 (.slice T tl.length ct)/\zC wr g1 2 (.int .u64 tx)/\zC wr g1 3 (.int .u64 num)):=
  zH λwr hb=>⟨(hb.cell (p:=⟨g1,0,none⟩) qq).trans (aM.cell 0),(hb.cell (p:=⟨g1,1,none⟩) qq).trans (aM.cell 1),(hb.cell (p:=⟨g1,2,none⟩) qq).trans (aM.cell 2),(hb.cell (p:=⟨g1,3,none⟩) qq).trans (aM.cell 3)⟩
 have HD:=zH (show Reads G w1 2 D dl.length (tj dl) from h1.d);have HT:=zH (show Reads G w1 4 T tl.length (tG tl) from h1.t);have HB:=zH hb1;have Gz:dl.length<=64:=Gz;have Gv:tl.length<=64:=Gv;have hx0:0<tx:=hx0;have hn0:0<num:=hn0;obtain⟨a0,-,-,-⟩:=HA.out w1 (zR _);clear h1 aM hb1 h hf hg1;go_wp2_with fail;clear a0;go_loopw [3,12] (λv3 v12 wr=>∃k:Nat,k<=dl.length/\v3=.int .u32 (Sp.nP (dl.map (·.1)) k:Nat)/\v12=.int .i64 k/\zB w1 wr) (λ_ v12 _=>dl.length-(intOf v12).toNat)
 case atStart=>exact⟨0,by omega,rfl,rfl,Below.refl _ _⟩
 case round=>
  obtain⟨k,hk,rfl,rfl,hbr⟩:=hrel;by_cases hlt:k<dl.length
  ·obtain⟨b,o,rfl,_,cH,hc1⟩:=(Reads.below HD.out hbr).2 (by omega);have e1:=hc1 _ _ (gU hlt).1;have e2:=hc1 _ _ (gU hlt).2;rw[<-Nat.add_assoc] at e2;have nE:=HF.out.d0 dl[k] (zw hlt);have TW:=Sp.EN HF.out.dr (λy hy=>by obtain⟨z,hz,rfl⟩:=zn.1 hy;exact(HF.out.d0 z hz).1) (k:=k) (by simpa using hlt);have XT:=Sp.xC (l:=dl.map (·.1)) (k:=k) (by simpa using hlt);rw[za6] at TW XT;have Bj:=zH XT;have hmeas:k+1<=dl.length:=hlt;have hs:=hbr.size;have eo:=zH (hbr.alloc hs (.cells #[.int .u32 (dl[k].1:Nat),.int .u64 (dl[k].2:Nat)] 111));clear XT hc1 hbr;change Sp.nP (dl.map (·.1)) k<dl[k].1 at TW;obtain⟨x1,hx1⟩:=zE (dl[k].1);obtain⟨x2,hx2⟩:=zE (dl[k].2);rw[<-hx1] at nE TW e1 Bj eo;rw[<-hx2] at nE e2 eo;generalize Sp.nP (dl.map (·.1)) k=pv at*;have q1:decide ((x1:Int)<=(pv:Int))=false:=by rw[ze];omega
   have q2:¬x1<=pv:=by omega
   have q3:((x2:Int)==0)=false:=by simp;omega
   have q4:¬x2=0:=by omega
   clear hx1 hx2;go_wp2_with fail;go_roundw
   case rel=>exact⟨k+1,hmeas,by rw[Bj.out],by go_num,eo.out⟩
   case measure=>simp[intOf];omega
  ·obtain rfl:k=dl.length:=by omega
   obtain⟨-,a1,-,-⟩:=HA.out wr hbr;have jB:=zH hbr;generalize Sp.nP (dl.map (·.1)) dl.length=pv;clear hbr hk hlt;go_wp2_with fail;clear a1;go_loopw [4,31] (λv4 v31 wr=>∃k:Nat,k<=tl.length/\v4=.int .u64 (Sp.nP (tl.map (·.tx)) k:Nat)/\v31=.int .i64 k/\zB w1 wr) (λ_ v31 _=>tl.length-(intOf v31).toNat)
   case atStart=>exact⟨0,by omega,rfl,rfl,jB.out⟩
   case round=>
    clear jB;obtain⟨k,hk,rfl,rfl,hbr⟩:=hrel;by_cases hlt:k<tl.length
    ·obtain⟨b,o,rfl,_,cH,hc1⟩:=(Reads.below HT.out hbr).2 (by omega);obtain⟨r1,r2,r3,r4⟩:=yU hlt;have e1:=hc1 _ _ r1;have e2:=hc1 _ _ r2;have e3:=hc1 _ _ r3;have e4:=hc1 _ _ r4;rw[<-Nat.add_assoc] at e2 e3 e4;have nE:=HF.out.t0 tl[k] (zw hlt);have TW:=Sp.EN HF.out.tr (λy hy=>by obtain⟨z,hz,rfl⟩:=zn.1 hy;exact(HF.out.t0 z hz).1) (k:=k) (by simpa using hlt);have XT:=Sp.xC (l:=tl.map (·.tx)) (k:=k) (by simpa using hlt);rw[za6] at TW XT;have Bj:=zH XT;have hmeas:k+1<=tl.length:=hlt;have hs:=hbr.size;have eo:=zH (hbr.alloc hs (.cells #[.int .u64 (tl[k].tx:Nat),.int .u64 (tl[k].first:Nat),.int .u64 (tl[k].last:Nat),.int .u64 (tl[k].next:Nat)] 113));clear XT hc1 hbr r1 r2 r3 r4;change Sp.nP (tl.map (·.tx)) k<tl[k].tx at TW;obtain⟨y1,hy1⟩:=zE (tl[k].tx);obtain⟨y2,sP⟩:=zE (tl[k].first);obtain⟨y3,Sz⟩:=zE (tl[k].last);obtain⟨y4,hy4⟩:=zE (tl[k].next);rw[<-hy1] at nE TW e1 Bj eo;rw[<-sP] at nE e2 eo;rw[<-Sz] at nE e3 eo;rw[<-hy4] at nE e4 eo;generalize Sp.nP (tl.map (·.tx)) k=pw at*;have q1:decide ((y1:Int)<=(pw:Int))=false:=by rw[ze];omega
     have q2:¬y1<=pw:=by omega
     have q3:((y2:Int)==0)=false:=by simp;omega
     have q4:¬y2=0:=by omega
     have q5:((y3:Int)==0)=false:=by simp;omega
     have q6:¬y3=0:=by omega
     clear hy1 sP Sz hy4;go_wp2_with fail;go_roundw
     case rel=>exact⟨k+1,hmeas,by rw[Bj.out],by go_num,eo.out⟩
     case measure=>simp[intOf];omega
    ·obtain rfl:k=tl.length:=by omega
     obtain⟨a0,a1,a2,a3⟩:=HA.out wr hbr;have qy:=zH (HB.out.trans (hbr.mono HB.out.size));generalize Sp.nP (tl.map (·.tx)) tl.length=pw;have q1:decide ((dl.length:Int)<=64)=true:=by rw[zx];omega
     have q2:decide ((tl.length:Int)<=64)=true:=by rw[zx];omega
     have q3:decide ((0:Int)<(tx:Int))=true:=by rw[zx];omega
     have q4:decide ((0:Int)<(num:Int))=true:=by rw[zx];omega
     have q5:(dl.length:Int)<=64:=by omega
     have q6:(tl.length:Int)<=64:=by omega
     clear hbr hk hlt;go_wp2_with fail;go_ret;exact⟨rfl,qy.out⟩
open Go.RowKit
namespace Sp
def fW (l:List (Nat×Nat)):Bs:=l.flatMap λy=>be 4 y.1++be 8 y.2
def fS (l:List Ac):Bs:=l.flatMap λa=>be 8 a.tx++be 8 a.first++(be 8 a.last++be 8 a.next)
def bI.pre (x:bI):Bs:=be 8 x.tx++be 8 x.num++be 1 x.d.length
def bI.bytes (x:bI):Bs:=x.pre++fW x.d++be 1 x.t.length++fS x.t
theorem cw (l:List (Nat×Nat)):(fW l).length=12*l.length:=by
 induction l with
 | nil=>rfl
 | cons y l ih=>simp only[fW,List.flatMap_cons,zo,aV] at ih ⊢;rw[ih,zP];omega
theorem eK (l:List Ac):(fS l).length=32*l.length:=by
 induction l with
 | nil=>rfl
 | cons y l ih=>simp only[fS,List.flatMap_cons,zo,aV] at ih ⊢;rw[ih,zP];omega
theorem FU {l:List (Nat×Nat)} (h:k<l.length):fW (l.take (k+1))=fW (l.take k)++(be 4 l[k].1++be 8 l[k].2):=by
 unfold fW;rw[zg h,List.flatMap_append];simp
theorem Es {l:List Ac} (h:k<l.length):fS (l.take (k+1))=fS (l.take k)++(be 8 l[k].tx++be 8 l[k].first++(be 8 l[k].last++be 8 l[k].next)):=by
 unfold fS;rw[zg h,List.flatMap_append];simp
end Sp
theorem RH (n:Nat) (h:n<=64):bits .and .i64 (n:Int) 255=(n:Int):=by
 have key:∀m:Fin 65,bits .and .i64 ((m.val:Nat):Int) 255=((m.val:Nat):Int):=by decide+kernel
 exact key ⟨n,by omega⟩
theorem EE {G:af} {w:World} {x:Sp.bI} (h:bS G w x D T) (hf:x.Fits):
 Calls prog 184 #[iz x D T cd ct] w λe w'=>e=.returned (str x.bytes)/\zB w w':=by
 have hb1:=(zR w).alloc (za _) (.cells (bJ x D T cd ct) 36);have aM:=aj.new w 36 (bJ x D T cd ct);have h1:=h.below hb1;have HF:=zH hf;go_enter func184,ntmps184;go_upto_region 1 with fail;change Code.wp _ _ _ _ (w.alloc (.cells (bJ x D T cd ct) 36));generalize w.alloc (.cells (bJ x D T cd ct) 36)=w1 at hb1 aM h1 ⊢;have Gz:=hf.dl;have Gv:=hf.tl;have Kg:=hf.x64;have hnm:=hf.rV;obtain⟨dl,tl,tx,num⟩:=x;obtain⟨g1,hg1⟩:=zE w.heap.size;have qq:g1<w1.heap.size:=by rw[hg1];exact aM.lt
 rw[<-hg1] at aM ⊢;have HA:Hid (∀wr,zB w1 wr->zC wr g1 0 (.slice D dl.length cd)/\zC wr g1 1 (.slice T tl.length ct)/\zC wr g1 2 (.int .u64 tx)/\zC wr g1 3 (.int .u64 num)):=
  zH λwr hb=>⟨(hb.cell (p:=⟨g1,0,none⟩) qq).trans (aM.cell 0),(hb.cell (p:=⟨g1,1,none⟩) qq).trans (aM.cell 1),(hb.cell (p:=⟨g1,2,none⟩) qq).trans (aM.cell 2),(hb.cell (p:=⟨g1,3,none⟩) qq).trans (aM.cell 3)⟩
 have HD:=zH (show Reads G w1 2 D dl.length (tj dl) from h1.d);have HT:=zH (show Reads G w1 4 T tl.length (tG tl) from h1.t);have HB:=zH hb1;replace Gz:dl.length<=64:=Gz;replace Gv:tl.length<=64:=Gv;replace Kg:tx<18446744073709551616:=Kg;replace hnm:num<18446744073709551616:=hnm;have HPX:=zH fun(W:World)=>dz tx 8 W (by omega) (by omega) Kg Kg;have Bj:=zH fun(W:World)=>dz num 8 W (by omega) (by omega) hnm hnm;have HPD:=zH fun(W:World)=>dz dl.length 1 W (by omega) (by omega) (by omega) (by omega);have GM:=zH fun(W:World)=>dz tl.length 1 W (by omega) (by omega) (by omega) (by omega);have HAND:=zH fun(n:Nat) (hn:n<=64)=>RH n hn;clear h1 aM hb1 h hf hg1;have nY:=zH (show zB w1 w1.drew from(zR _).drew);refine eV (λW=>zB w1 W) (λ_=>false) rfl ?_;refine vo 0 8 nY.out ?_;refine kS 1 9 (v:=.int .u64 (tx:Int)) nY.out ?_ (hy:=by intro w hSw;obtain⟨a0,a1,a2,a3⟩:=HA.out w hSw;clear hSw;go_simp);simp only[zSA,zSB,zSC];refine vo 3 11 nY.out ?_;refine kS 4 12 (v:=.int .u64 (num:Int)) nY.out ?_ (hy:=by intro w hSw;obtain⟨a0,a1,a2,a3⟩:=HA.out w hSw;clear hSw;go_simp);simp only[zSA,zSB,zSC];refine vo 7 15 nY.out ?_;refine kS 8 16 (v:=.slice D dl.length cd) nY.out ?_ (hy:=by intro w hSw;obtain⟨a0,a1,a2,a3⟩:=HA.out w hSw;clear hSw;go_simp);simp only[zSA,zSB,zSC];refine vo 9 17 nY.out ?_;refine kS 10 18 (v:=.int .i64 (dl.length:Int)) nY.out ?_ (hy:=by intro w hSw;go_simp;exact HAND.out _ Gz);simp only[zSA,zSB,zSC];refine kS 11 19 (v:=.int .u64 (dl.length:Int)) nY.out ?_ (hy:=by intro w hSw;go_simp;rw[IntKind.wrap_u64];omega);simp only[zSA,zSB,zSC];have Ws:=zH (HPX.out w1.drew);refine aI 2 10 (w':=w1.drew) rfl rfl (by rfl) (by kernel_rfl) ?_ Ws.out ?_
 ·go_simp
 rintro e x1_1 ⟨rfl,VM⟩;have KZ:=zH (nY.out.trans (VM.mono nY.out.size));refine⟨_,rfl,λ_=>KZ.out,?_⟩;simp only[zSA,zSB,zSC];have Wq:=zH (Bj.out x1_1);refine aI 5 13 (w':=x1_1) rfl rfl (by rfl) (by kernel_rfl) ?_ Wq.out ?_
 ·go_simp
 rintro e x1_2 ⟨rfl,VL⟩;have Gd:=zH (KZ.out.trans (VL.mono KZ.out.size));refine⟨_,rfl,λ_=>Gd.out,?_⟩;simp only[zSA,zSB,zSC];refine kS 6 14 (v:=str (Sp.be 8 tx++Sp.be 8 num)) Gd.out ?_ (hy:=by intro w hSw;go_simp;rw[aP]);simp only[zSA,zSB,zSC];have Wp:=zH (HPD.out x1_2);refine aI 12 20 (w':=x1_2) rfl rfl (by rfl) (by kernel_rfl) ?_ Wp.out ?_
 ·go_simp
 rintro e x1_3 ⟨rfl,VK⟩;have Gc:=zH (Gd.out.trans (VK.mono Gd.out.size));refine⟨_,rfl,λ_=>Gc.out,?_⟩;simp only[zSA,zSB,zSC];refine kS 13 21 (v:=str (Sp.be 8 tx++Sp.be 8 num++Sp.be 1 dl.length)) Gc.out ?_ (hy:=by intro w hSw;go_simp;rw[aP,zh]);simp only[zSA,zSB,zSC];refine vo 14 3 Gc.out ?_;refine aC (by kernel_rfl) ?_ _;rename_i K9 aT;refine aT _ _ ?_;clear aT;have Cr:=zH Gc.out;obtain⟨a0,-,-,-⟩:=HA.out x1_3 Cr.out;clear VM VL VK nY KZ Gd Gc Ws Wq Wp HPX Bj HPD;obtain⟨pre,hpre⟩:=zE (Sp.be 8 tx++Sp.be 8 num++Sp.be 1 dl.length);rw[<-hpre];have R_:=zH hpre;have tR:=zH (show pre.length<=17 by rw[hpre];simp);clear hpre;go_wp2_with fail;clear a0;go_loopw [3,25] (λv3 v25 wr=>∃k:Nat,k<=dl.length/\v3=str (pre++Sp.fW (dl.take k))/\v25=.int .i64 k/\zB w1 wr) (λ_ v25 _=>dl.length-(intOf v25).toNat)
 case atStart=>exact⟨0,by omega,by rw[R_.out];simp[Sp.fW],rfl,Cr.out⟩
 case round=>
  clear Cr;obtain⟨k,hk,rfl,rfl,hbr⟩:=hrel;by_cases hlt:k<dl.length
  ·obtain⟨b,o,rfl,_,cH,hc1⟩:=(Reads.below HD.out hbr).2 (by omega);obtain⟨r0,r1⟩:=gU hlt;have e0:=hc1 _ _ r0;have e1:=hc1 _ _ r1;rw[<-Nat.add_assoc] at e1;have nE:=HF.out.d0 dl[k] (zw hlt);have tO:=Sp.FU hlt;have pH:=zH tO;have hmeas:k+1<=dl.length:=hlt;have hs:=hbr.size;have eo:=zH (hbr.alloc hs (.cells #[.int .u32 (dl[k].1:Nat),.int .u64 (dl[k].2:Nat)] 111));have A_:=aj.new wr 111 #[.int .u32 (dl[k].1:Nat),.int .u64 (dl[k].2:Nat)];clear tO hc1 hbr r0 r1;obtain⟨y0,hy0⟩:=zE (dl[k].1);obtain⟨y1,hy1⟩:=zE (dl[k].2);rw[<-hy0] at nE e0 pH eo A_;rw[<-hy1] at nE e1 pH eo A_;clear hy0 hy1;obtain⟨pk,hpk⟩:=zE (pre++Sp.fW (dl.take k));rw[<-hpk];have hpkl:pk.length<=20000:=by rw[hpk,zo,Sp.cw,zag];have:=tR.out;omega
   have HPK:=zH hpk;clear hpk;go_upto_region 5 with fail;change Code.wp _ _ _ _ (wr.alloc (.cells #[.int .u32 (y0:Nat),.int .u64 (y1:Nat)] 111));obtain⟨wb,Xx⟩:=zE (wr.alloc (.cells #[.int .u32 (y0:Nat),.int .u64 (y1:Nat)] 111));obtain⟨g5,jm⟩:=zE wr.heap.size;rw[<-Xx] at eo A_;rw[<-jm] at A_;rw[<-Xx,<-jm];have hgb:=A_.lt;have La:Hid (∀W,zB wb W->zC W g5 0 (.int .u32 y0)/\zC W g5 1 (.int .u64 y1)):=zH λW hb=>⟨(hb.cell (p:=⟨g5,0,none⟩) hgb).trans (A_.cell 0),(hb.cell (p:=⟨g5,1,none⟩) hgb).trans (A_.cell 1)⟩;clear Xx jm A_ e0 e1;have V_:=zH fun(W:World)=>dz y0 4 W (by omega) (by omega) (by omega) (by omega);have V9:=zH fun(W:World)=>dz y1 8 W (by omega) (by omega) nE.2.2.2 nE.2.2.2;have tK:=zH (show zB wb wb.drew from(zR _).drew);refine eV (λW=>zB wb W) (λ_=>false) rfl ?_;refine vo 0 29 tK.out ?_;refine vo 1 30 tK.out ?_;refine kS 2 31 (v:=.int .u32 (y0:Int)) tK.out ?_ (hy:=by intro w hSw;obtain⟨a0,a1⟩:=La.out w hSw;clear hSw;go_simp);simp only[zSA,zSB,zSC];refine kS 3 32 (v:=.int .u64 (y0:Int)) tK.out ?_ (hy:=by intro w hSw;go_simp;try(rw[IntKind.wrap_u64];omega));simp only[zSA,zSB,zSC];refine vo 5 34 tK.out ?_;refine kS 6 35 (v:=.int .u64 (y1:Int)) tK.out ?_ (hy:=by intro w hSw;obtain⟨a0,a1⟩:=La.out w hSw;clear hSw;go_simp);simp only[zSA,zSB,zSC];have Wn:=zH (V_.out wb.drew);refine aI 4 33 (w':=wb.drew) rfl rfl (by rfl) (by kernel_rfl) ?_ Wn.out ?_
   ·go_simp
   rintro e x5_1 ⟨rfl,VJ⟩;have KY:=zH (tK.out.trans (VJ.mono tK.out.size));refine⟨_,rfl,λ_=>KY.out,?_⟩;simp only[zSA,zSB,zSC];have Wm:=zH (V9.out x5_1);refine aI 7 36 (w':=x5_1) rfl rfl (by rfl) (by kernel_rfl) ?_ Wm.out ?_
   ·go_simp
   rintro e x5_2 ⟨rfl,VI⟩;have Cn:=zH (KY.out.trans (VI.mono KY.out.size));refine⟨_,rfl,λ_=>Cn.out,?_⟩;simp only[zSA,zSB,zSC];refine kS 8 37 (v:=str (Sp.be 4 y0++Sp.be 8 y1)) Cn.out ?_ (hy:=by intro w hSw;go_simp;rw[aP]);simp only[zSA,zSB,zSC];refine kS 9 38 (v:=str (pk++(Sp.be 4 y0++Sp.be 8 y1))) Cn.out ?_ (hy:=by intro w hSw;go_simp;rw[zD (by omega),aP]);simp only[zSA,zSB,zSC];refine vo 10 3 Cn.out ?_;refine aC (by kernel_rfl) ?_ _;rename_i K9 aT;refine aT _ _ ?_;clear aT;have qz:=zH (eo.out.trans (Cn.out.mono eo.out.size));have hnew:pk++(Sp.be 4 y0++Sp.be 8 y1)=pre++Sp.fW (dl.take (k+1)):=by rw[pH.out,HPK.out,zh]
   rw[hnew];clear hnew VJ VI tK KY Cn Wn Wm eo La V_ V9 pH;go_wp2_with fail;go_roundw
   case rel=>exact⟨k+1,hmeas,rfl,by go_num,qz.out⟩
   case measure=>simp[intOf];omega
  ·obtain rfl:k=dl.length:=by omega
   rw[zL];obtain⟨-,a1,-,-⟩:=HA.out wr hbr;have jB:=zH hbr;obtain⟨pre1,Kk⟩:=zE (pre++Sp.fW dl);rw[<-Kk];have HPRE1:=zH Kk;have hp1l:pre1.length<=10000:=by rw[Kk,zo,Sp.cw];have:=tR.out;omega
   clear hbr hk hlt Kk;have hand:=RH tl.length Gv;have hw64:IntKind.u64.wrap (tl.length:Int)=(tl.length:Int):=by rw[IntKind.wrap_u64];omega
   go_wp2_with fail;clear hand hw64;refine(GM.out wr).mono ?_;rintro e wt ⟨rfl,VG⟩;have Cr:=zH (jB.out.trans (VG.mono jB.out.size));obtain⟨-,a1,-,-⟩:=HA.out wt Cr.out;obtain⟨OP,PN⟩:=zE (pre1++Sp.be 1 tl.length);have tR:=zH (show OP.length<=10001 by rw[PN];simp;omega);have HPRE0:=R_;have R_:=zH PN;clear PN jB GM VG;go_wp2_with fail;clear a1;go_loopw [3,51] (λv3 v25 wr=>∃k:Nat,k<=tl.length/\v3=str (OP++Sp.fS (tl.take k))/\v25=.int .i64 k/\zB w1 wr) (λ_ v25 _=>tl.length-(intOf v25).toNat)
   case atStart=>exact⟨0,by omega,by rw[R_.out];simp[Sp.fS,aP],rfl,Cr.out⟩
   case round=>
    clear Cr;obtain⟨k,hk,rfl,rfl,hbr⟩:=hrel;by_cases hlt:k<tl.length
    ·obtain⟨b,o,rfl,_,cH,hc1⟩:=(Reads.below HT.out hbr).2 (by omega);obtain⟨r0,r1,r2,r3⟩:=yU hlt;have e0:=hc1 _ _ r0;have e1:=hc1 _ _ r1;have e2:=hc1 _ _ r2;have e3:=hc1 _ _ r3;rw[<-Nat.add_assoc] at e1 e2 e3;have nE:=HF.out.t0 tl[k] (zw hlt);have tO:=Sp.Es hlt;have pH:=zH tO;have hmeas:k+1<=tl.length:=hlt;have hs:=hbr.size;have eo:=zH (hbr.alloc hs (.cells #[.int .u64 (tl[k].tx:Nat),.int .u64 (tl[k].first:Nat),.int .u64 (tl[k].last:Nat),.int .u64 (tl[k].next:Nat)] 113));have A_:=aj.new wr 113 #[.int .u64 (tl[k].tx:Nat),.int .u64 (tl[k].first:Nat),.int .u64 (tl[k].last:Nat),.int .u64 (tl[k].next:Nat)];clear tO hc1 hbr r0 r1 r2 r3;obtain⟨y0,hy0⟩:=zE (tl[k].tx);obtain⟨y1,hy1⟩:=zE (tl[k].first);obtain⟨y2,sP⟩:=zE (tl[k].last);obtain⟨y3,Sz⟩:=zE (tl[k].next);rw[<-hy0] at nE e0 pH eo A_;rw[<-hy1] at nE e1 pH eo A_;rw[<-sP] at nE e2 pH eo A_;rw[<-Sz] at nE e3 pH eo A_;clear hy0 hy1 sP Sz;obtain⟨pk,hpk⟩:=zE (OP++Sp.fS (tl.take k));rw[<-hpk];have hpkl:pk.length<=20000:=by rw[hpk,zo,Sp.eK,zag];have:=tR.out;omega
     have HPK:=zH hpk;clear hpk;go_upto_region 11 with fail;change Code.wp _ _ _ _ (wr.alloc (.cells #[.int .u64 (y0:Nat),.int .u64 (y1:Nat),.int .u64 (y2:Nat),.int .u64 (y3:Nat)] 113));obtain⟨wb,Xx⟩:=zE (wr.alloc (.cells #[.int .u64 (y0:Nat),.int .u64 (y1:Nat),.int .u64 (y2:Nat),.int .u64 (y3:Nat)] 113));obtain⟨g5,jm⟩:=zE wr.heap.size;rw[<-Xx] at eo A_;rw[<-jm] at A_;rw[<-Xx,<-jm];have hgb:=A_.lt;have La:Hid (∀W,zB wb W->zC W g5 0 (.int .u64 y0)/\zC W g5 1 (.int .u64 y1)/\zC W g5 2 (.int .u64 y2)/\zC W g5 3 (.int .u64 y3)):=zH λW hb=>⟨(hb.cell (p:=⟨g5,0,none⟩) hgb).trans (A_.cell 0),(hb.cell (p:=⟨g5,1,none⟩) hgb).trans (A_.cell 1),(hb.cell (p:=⟨g5,2,none⟩) hgb).trans (A_.cell 2),(hb.cell (p:=⟨g5,3,none⟩) hgb).trans (A_.cell 3)⟩;clear Xx jm A_ e0 e1 e2 e3;have V_:=zH fun(W:World)=>dz y0 8 W (by omega) (by omega) nE.2.1 nE.2.1;have V9:=zH fun(W:World)=>dz y1 8 W (by omega) (by omega) nE.2.2.2.1 nE.2.2.2.1;have Sa:=zH fun(W:World)=>dz y2 8 W (by omega) (by omega) nE.2.2.2.2.2.1 nE.2.2.2.2.2.1;have UN:=zH fun(W:World)=>dz y3 8 W (by omega) (by omega) nE.2.2.2.2.2.2 nE.2.2.2.2.2.2;have jP:=zH (show zB wb wb.drew from(zR _).drew);refine eV (λW=>zB wb W) (λ_=>false) rfl ?_;refine vo 0 55 jP.out ?_;refine vo 1 56 jP.out ?_;refine kS 2 57 (v:=.int .u64 (y0:Int)) jP.out ?_ (hy:=by intro w hSw;obtain⟨a0,a1,a2,a3⟩:=La.out w hSw;clear hSw;go_simp);simp only[zSA,zSB,zSC];refine vo 4 59 jP.out ?_;refine kS 5 60 (v:=.int .u64 (y1:Int)) jP.out ?_ (hy:=by intro w hSw;obtain⟨a0,a1,a2,a3⟩:=La.out w hSw;clear hSw;go_simp);simp only[zSA,zSB,zSC];refine vo 8 63 jP.out ?_;refine kS 9 64 (v:=.int .u64 (y2:Int)) jP.out ?_ (hy:=by intro w hSw;obtain⟨a0,a1,a2,a3⟩:=La.out w hSw;clear hSw;go_simp);simp only[zSA,zSB,zSC];refine vo 12 67 jP.out ?_;refine kS 13 68 (v:=.int .u64 (y3:Int)) jP.out ?_ (hy:=by intro w hSw;obtain⟨a0,a1,a2,a3⟩:=La.out w hSw;clear hSw;go_simp);simp only[zSA,zSB,zSC];have Sk:=zH (V_.out wb.drew);refine aI 3 58 (w':=wb.drew) rfl rfl (by rfl) (by kernel_rfl) ?_ Sk.out ?_
     ·go_simp
     rintro e U5 ⟨rfl,QH⟩;have DN:=zH (jP.out.trans (QH.mono jP.out.size));refine⟨_,rfl,λ_=>DN.out,?_⟩;simp only[zSA,zSB,zSC];have Sj:=zH (V9.out U5);refine aI 6 61 (w':=U5) rfl rfl (by rfl) (by kernel_rfl) ?_ Sj.out ?_
     ·go_simp
     rintro e U4 ⟨rfl,QG⟩;have yZ:=zH (DN.out.trans (QG.mono DN.out.size));refine⟨_,rfl,λ_=>yZ.out,?_⟩;simp only[zSA,zSB,zSC];refine kS 7 62 (v:=str (Sp.be 8 y0++Sp.be 8 y1)) yZ.out ?_ (hy:=by intro w hSw;go_simp;rw[aP]);simp only[zSA,zSB,zSC];have Si:=zH (Sa.out U4);refine aI 10 65 (w':=U4) rfl rfl (by rfl) (by kernel_rfl) ?_ Si.out ?_
     ·go_simp
     rintro e U3 ⟨rfl,QF⟩;have yY:=zH (yZ.out.trans (QF.mono yZ.out.size));refine⟨_,rfl,λ_=>yY.out,?_⟩;simp only[zSA,zSB,zSC];refine kS 11 66 (v:=str (Sp.be 8 y0++Sp.be 8 y1++Sp.be 8 y2)) yY.out ?_ (hy:=by intro w hSw;go_simp;rw[aP,zh]);simp only[zSA,zSB,zSC];have Sh:=zH (UN.out U3);refine aI 14 69 (w':=U3) rfl rfl (by rfl) (by kernel_rfl) ?_ Sh.out ?_
     ·go_simp
     rintro e x11_4 ⟨rfl,QE⟩;have uI:=zH (yY.out.trans (QE.mono yY.out.size));refine⟨_,rfl,λ_=>uI.out,?_⟩;simp only[zSA,zSB,zSC];refine kS 15 70 (v:=str (Sp.be 8 y0++Sp.be 8 y1++Sp.be 8 y2++Sp.be 8 y3)) uI.out ?_ (hy:=by intro w hSw;go_simp;rw[aP];simp);simp only[zSA,zSB,zSC];refine kS 16 71 (v:=str (pk++(Sp.be 8 y0++Sp.be 8 y1++(Sp.be 8 y2++Sp.be 8 y3)))) uI.out ?_ (hy:=by intro w hSw;go_simp;rw[zD (by omega),aP]);simp only[zSA,zSB,zSC];refine vo 17 3 uI.out ?_;refine aC (by kernel_rfl) ?_ _;rename_i K9 aT;refine aT _ _ ?_;clear aT;have qz:=zH (eo.out.trans (uI.out.mono eo.out.size));have hnew:pk++(Sp.be 8 y0++Sp.be 8 y1++(Sp.be 8 y2++Sp.be 8 y3))=OP++Sp.fS (tl.take (k+1)):=by rw[pH.out,HPK.out,zh]
     have HNEW:=zH hnew;clear hnew QH QG QF QE jP DN yZ yY uI Sk Sj Si Sh eo La V_ V9 Sa UN;go_wp2_with fail;go_roundw
     case rel=>exact⟨k+1,hmeas,by rw[<-HNEW.out];first | rfl | simp[zh],by go_num,qz.out⟩
     case measure=>simp[intOf];omega
    ·obtain rfl:k=tl.length:=by omega
     rw[zL];have qy:=zH (HB.out.trans (hbr.mono HB.out.size));clear hbr hk hlt;go_wp2_with fail;go_ret;exact⟨by show Ending.returned (str (OP++Sp.fS tl))=_;rw[R_.out,HPRE1.out,HPRE0.out];rfl,qy.out⟩
def Sp.Rec.base (r:Sp.Rec):Sp.Rec:=⟨r.kind,r.tx,r.prev,0,0,0,0,[],0,0,0,0⟩
def Sp.Rec.has (r:Sp.Rec):Sp.Rec:=
 if r.kind=2 then{r.base with rp:=r.rp,rs:=r.rs,body:=r.body} else if r.kind=6 then{r.base with body:=r.body} else if r.kind=3 then{r.base with next:=r.next,body:=r.body} else if r.kind=4 then{r.base with number:=r.number,body:=r.body} else r.base
def cC:Sp.Rec:=⟨0,0,0,0,0,0,0,[],0,0,0,0⟩
theorem S_ {w:World} {r:Sp.Rec} (h8:r.kind≠8):
 Calls prog 182 #[cE r D T cd ct] w λe w'=>e=.returned (cE r.has none none 0 0)/\zB w w':=by
 have aM:=aj.new w 84 (ai r D T cd ct);have hb1:=(zR w).alloc (za _) (.cells (ai r D T cd ct) 84);have H8:=zH h8;clear h8;go_enter func182,ntmps182;go_upto_region 1 with fail;change Code.wp _ _ _ _ ((w.alloc (.cells (ai r D T cd ct) 84)).alloc (.cells (ai cC none none 0 0) 84));have hb2:=hb1.alloc (by simp) (.cells (ai cC none none 0 0) 84);have bB:=aM.alloc (.cells (ai cC none none 0 0) 84);have FJ:=aj.new (w.alloc (.cells (ai r D T cd ct) 84)) 84 (ai cC none none 0 0);have hsz:(w.alloc (.cells (ai r D T cd ct) 84)).heap.size=w.heap.size+1:=by simp
 rw[hsz] at FJ;clear hsz aM hb1;generalize(w.alloc (.cells (ai r D T cd ct) 84)).alloc (.cells (ai cC none none 0 0) 84)=w2 at hb2 bB FJ ⊢;have hz:aj (w2.alloc (.cells (ai cC none none 0 0) 84)) w2.heap.size 84 (ai cC none none 0 0):=aj.new _ _ _;have HS:=zH (eB (r:=r.base) (D:=none) (T:=none) (cd:=0) (ct:=0) hz);have uw:zB w2 ((w2.alloc (.cells (ai cC none none 0 0) 84)).setRow w2.heap.size (ai r.base none none 0 0)):=below_setRow ((zR w2).alloc (za _) _) (za _) _;have oO:aj ((w2.alloc (.cells (ai cC none none 0 0) 84)).setRow w2.heap.size (ai r.base none none 0 0)) w2.heap.size 84 (ai r.base none none 0 0):=hz.setRow _;have cg:=bB.below uw bB.lt;have Uo:=FJ.below uw FJ.lt;have hb3:=hb2.trans (uw.mono hb2.size);have c0:=bB.cell 0;have c1:=bB.cell 1;have c2:=bB.cell 2;simp only[ai,zGA,zGB,zGC] at c0 c1 c2;have hn1:w.heap.size≠w2.heap.size:=by have:=bB.lt;omega
 have hn2:w.heap.size+1≠w2.heap.size:=by have:=FJ.lt;omega
 have hgx:w.heap.size<=w2.heap.size:=hb2.size;replace oO:=zH oO;replace cg:=zH cg;replace Uo:=zH Uo;replace hb3:=zH hb3;clear hz uw hb2 bB FJ;go_upto_region 2 with(first
  | ((with_reducible refine wpList_skip (w':=(w2.alloc (.cells (ai cC none none 0 0) 84)).setRow w2.heap.size (ai r.base none none 0 0)) rfl rfl ?_ ?_);exact aq _ _ _ ⟨w2.heap.size,0,none⟩ (cE r.base none none 0 0) rfl rfl rfl HS.out))
 clear HS c0 c1 c2;generalize(w2.alloc (.cells (ai cC none none 0 0) 84)).setRow w2.heap.size (ai r.base none none 0 0)=w3 at oO cg Uo hb3 ⊢;obtain⟨gx,hg⟩:=zE w2.heap.size;rw[<-hg] at oO hn1 hn2 hgx;rw[<-hg];clear hg;have c0:=cg.out.cell 0;simp only[ai,zGA,zGC] at c0;go_upto_block 0 with fail;clear c0;go_cut [] from 13 to 46 (λwx=>aj wx gx 84 (ai r.has none none 0 0)/\aa (only gx) (only gx) w3 wx)
 case first=>
  by_cases h2:r.kind=2
  ·have q2:((r.kind:Int)==2)=true:=by simp[h2]
   have HK:=zH h2;have hh:r.has={r.base with rp:=r.rp,rs:=r.rs,body:=r.body}:=by unfold Sp.Rec.has;rw[HK.out];rfl
   clear h2;have c3:=cg.out.cell 3;have x3:=oO.out.cell 3;have f3:=oO.out.frozen 3;have c4:=cg.out.cell 4;have x4:=oO.out.cell 4;have f4:=oO.out.frozen 4;have c7:=cg.out.cell 7;have x7:=oO.out.cell 7;have f7:=oO.out.frozen 7;simp only[ai,zGA,zGB,zGC] at c3 x3 c4 x4 c7 x7;replace hh:=zH hh;go_wp2_with fail
   go_region
   go_wp2_with fail;go_meet
   case rel=>exact⟨by rw[hh.out];exact(((oO.out.a_ 3 _).a_ 4 _).a_ 7 _).drew,((((aa.refl (only gx) w3).setCell (p:=⟨gx,3,none⟩) (.inl rfl) _).setCell (p:=⟨gx,4,none⟩) (.inl rfl) _).setCell (p:=⟨gx,7,none⟩) (.inl rfl) _).drew⟩
  have q2:((r.kind:Int)==2)=false:=by rw[zv];omega
  by_cases h6:r.kind=6
  ·have q6:((r.kind:Int)==6)=true:=by simp[h6]
   have HK:=zH h6;have hh:r.has={r.base with body:=r.body}:=by unfold Sp.Rec.has;rw[HK.out];rfl
   clear h6;have c7:=cg.out.cell 7;have x7:=oO.out.cell 7;have f7:=oO.out.frozen 7;simp only[ai,zGA,zGB,zGC] at c7 x7;replace hh:=zH hh;go_wp2_with fail;go_meet
   case rel=>exact⟨by rw[hh.out];exact(oO.out.a_ 7 _),((aa.refl (only gx) w3).setCell (p:=⟨gx,7,none⟩) (.inl rfl) _)⟩
  have q6:((r.kind:Int)==6)=false:=by rw[zv];omega
  by_cases h3:r.kind=3
  ·have q3:((r.kind:Int)==3)=true:=by simp[h3]
   have HK:=zH h3;have hh:r.has={r.base with next:=r.next,body:=r.body}:=by unfold Sp.Rec.has;rw[HK.out];rfl
   clear h3;have c5:=cg.out.cell 5;have x5:=oO.out.cell 5;have f5:=oO.out.frozen 5;have c7:=cg.out.cell 7;have x7:=oO.out.cell 7;have f7:=oO.out.frozen 7;simp only[ai,zGA,zGB,zGC] at c5 x5 c7 x7;replace hh:=zH hh;go_wp2_with fail
   go_region
   go_wp2_with fail;go_meet
   case rel=>exact⟨by rw[hh.out];exact((oO.out.a_ 5 _).a_ 7 _).drew,(((aa.refl (only gx) w3).setCell (p:=⟨gx,5,none⟩) (.inl rfl) _).setCell (p:=⟨gx,7,none⟩) (.inl rfl) _).drew⟩
  have q3:((r.kind:Int)==3)=false:=by rw[zv];omega
  by_cases h4:r.kind=4
  ·have q4:((r.kind:Int)==4)=true:=by simp[h4]
   have HK:=zH h4;have hh:r.has={r.base with number:=r.number,body:=r.body}:=by unfold Sp.Rec.has;rw[HK.out];rfl
   clear h4;have c6:=cg.out.cell 6;have x6:=oO.out.cell 6;have f6:=oO.out.frozen 6;have c7:=cg.out.cell 7;have x7:=oO.out.cell 7;have f7:=oO.out.frozen 7;simp only[ai,zGA,zGB,zGC] at c6 x6 c7 x7;replace hh:=zH hh;go_wp2_with fail
   go_region
   go_wp2_with fail;go_meet
   case rel=>exact⟨by rw[hh.out];exact((oO.out.a_ 6 _).a_ 7 _).drew,(((aa.refl (only gx) w3).setCell (p:=⟨gx,6,none⟩) (.inl rfl) _).setCell (p:=⟨gx,7,none⟩) (.inl rfl) _).drew⟩
  have q4:((r.kind:Int)==4)=false:=by rw[zv];omega
  have q8:((r.kind:Int)==8)=false:=by have:=H8.out;rw[zv];omega
  have hh:r.has=r.base:=by unfold Sp.Rec.has;rw[zD h2,zD h6,zD h3,zD h4]
  replace hh:=zH hh;clear h2 h3 h4 h6;go_wp2_with fail;go_meet
  case rel=>exact⟨by rw[hh.out];exact oO.out,aa.refl _ _⟩
 case rest=>
 rename_i K8 iO;refine iO _ _ ?_;clear iO;obtain⟨hXx,MQ⟩:=hcut;have HL:=zH (bY hXx);have YZ:=Uo.out.turns MQ hn2;have HS:=zH (eB (r:=r.has) (D:=none) (T:=none) (cd:=0) (ct:=0) YZ);have fN:zB w wc:=hb3.out.trans (MQ.below (show w.heap.size<=w3.heap.size from hb3.out.size) (λb hb=>by have hb:b=gx:=hb;omega));have cS:zB w (wc.setRow (w.heap.size+1) (ai r.has none none 0 0)):=below_setRow fN (by omega) _;have hC5:=YZ.setRow (ai r.has none none 0 0);have mj:=zH cS;have HC5:=zH hC5;clear hXx MQ YZ fN cS hC5;go_wp2_with (first
  | ((with_reducible refine aY (v:=cE r.has none none 0 0) (w':=wc) 47 rfl rfl ?_ ?_);exact ay _ _ ⟨gx,0,none⟩ rfl rfl HL.out;simp only[zSA,zSB,zSC])
  | ((with_reducible refine wpList_skip (w':=wc.setRow (w.heap.size+1) (ai r.has none none 0 0)) rfl rfl ?_ ?_);exact aq _ _ _ ⟨w.heap.size+1,0,none⟩ (cE r.has none none 0 0) rfl rfl rfl HS.out))
 exact bodyPost_ret (v:=cE r.has none none 0 0) (results_cell_row rfl _ _ _ _ _ _ _ rfl HC5.out underlying84 rfl xw) rfl ⟨rfl,mj.out⟩
theorem FN {w:World} {nd:Nat} (hn:nd<=100000000):
 Calls prog 236 #[.slice D nd cd,.slice none 0 0] w λe w'=>e=.returned (.bool (decide (nd=0)))/\w'=w:=by
 cases nd with
 | zero=>
  go_enter func236,ntmps236;go_wp2_with fail;refine wp_loop_rounds 1 ?_;rw[rounds_succ];go_wp2_with fail;go_ret;exact⟨rfl,rfl⟩
 | succ n=>
  have e1:(((n+1:Nat):Int) != 0)=true:=by simp;omega
  have e2:(((n:Int)+1) != 0)=true:=by simp;omega
  go_enter func236,ntmps236;go_wp2_with fail;go_ret;exact⟨rfl,rfl⟩
theorem Dv {w:World} {nd:Nat} (hn:nd<=100000000):
 Calls prog 237 #[.slice D nd cd,.slice none 0 0] w λe w'=>e=.returned (.bool (decide (nd=0)))/\w'=w:=by
 cases nd with
 | zero=>
  go_enter func237,ntmps237;go_wp2_with fail;refine wp_loop_rounds 1 ?_;rw[rounds_succ];go_wp2_with fail;go_ret;exact⟨rfl,rfl⟩
 | succ n=>
  have e1:(((n+1:Nat):Int) != 0)=true:=by simp;omega
  have e2:(((n:Int)+1) != 0)=true:=by simp;omega
  go_enter func237,ntmps237;go_wp2_with fail;go_ret;exact⟨rfl,rfl⟩
def iN (D T:Option Addr) (nd cd nt ct pM gi:Nat):Array Value:=#[.slice D nd cd,.slice T nt ct,.int .u64 pM,.int .u64 gi]
theorem lq:(prog.info? 36).map (·.size)=some 4:=by kernel_rfl
theorem Ta {a b:Sp.Rec} (h1:a.kind=b.kind) (h2:a.tx=b.tx) (h3:a.prev=b.prev) (h4:a.rp=b.rp) (h5:a.rs=b.rs) (h6:a.next=b.next) (h7:a.number=b.number) (h8:a.body=b.body) (h9:a.pM=b.pM) (h10:a.gi=b.gi) (h11:a.nd=b.nd) (h12:a.nt=b.nt):a=b:=by
 cases a;cases b;simp_all
def iP:Array Value:=iN none none 0 0 0 0 0 0
theorem kE {r:Sp.Rec} (h:aj W g 84 (ai r D T cd ct)):
 (loadVar 36 ⟨g,8,none⟩).run prog W=.ok (.agg (iN D T r.nd cd r.nt ct r.pM r.gi)) W:=by
 refine eW (P:=prog) W ⟨g,8,none⟩ 36 (iN D T r.nd cd r.nt ct r.pM r.gi).toList _ (λj v hv=>?_) underlying36 rfl lq;rw[addr_add,h.cell (8+j)];have hj:j<4:=by
  have:=(zad.1 hv).1;simpa[iN] using this
 obtain rfl | rfl | rfl | rfl:j=0\/j=1\/j=2\/j=3:=by omega
 all_goals exact hv
theorem jU {nd nt pM gi:Nat} (h:aj W g 36 #[c0,c1,c2,c3]):
 (storeVar 36 ⟨g,0,none⟩ (.agg (iN D T nd cd nt ct pM gi))).run prog W=.ok () (W.setRow g (iN D T nd cd nt ct pM gi)):=
 ax W g 0 _ _ _ _ h lq (by show 0+4<=4;omega) (by simp[iN,Value.oneCell'])
theorem OD {w:World} {a b:Sp.Rec} (hk:a.kind=b.kind) (ht:a.tx=b.tx) (hp:a.prev=b.prev) (Aa:b.nd=0) (VG:b.nt=0) (hnd:a.nd<=100000000) (hnt:a.nt<=100000000):
 Calls prog 181 #[cE a D T cd ct,cE b none none 0 0] w λe w'=>e=.returned (.bool (decide (a=b)))/\zB w w':=by
 have oh:=(aj.new w 84 (ai a D T cd ct)).alloc (.cells (ai b none none 0 0) 84);have aM:=aj.new (w.alloc (.cells (ai a D T cd ct) 84)) 84 (ai b none none 0 0);have hsz:(w.alloc (.cells (ai a D T cd ct) 84)).heap.size=w.heap.size+1:=by simp
 have hb1:=((zR w).alloc (za _) (.cells (ai a D T cd ct) 84)).alloc (by simp) (.cells (ai b none none 0 0) 84);rw[hsz] at aM;clear hsz;go_enter func181,ntmps181;go_upto_region 1 with fail;change Code.wp _ _ _ _ ((w.alloc (.cells (ai a D T cd ct) 84)).alloc (.cells (ai b none none 0 0) 84));generalize(w.alloc (.cells (ai a D T cd ct) 84)).alloc (.cells (ai b none none 0 0) 84)=w2 at oh aM hb1 ⊢;go_cut [5,6] from 5 to 10 (λv5 v6 wx=>∃g5 g6,v5=ptr g5/\v6=ptr g6/\aj wx g5 36 (iN D T a.nd cd a.nt ct a.pM a.gi)/\aj wx g6 36 (iN none none b.nd 0 b.nt 0 b.pM b.gi)/\zB w2 wx)
 case first=>
  have hS:=zH (show aj w2.drew w.heap.size 84 (ai a D T cd ct)/\aj w2.drew (w.heap.size+1) 84 (ai b none none 0 0) from⟨oh.drew,aM.drew⟩);have rX:=oh.lt;have hbl:=aM.lt;clear oh aM;refine fQ (λW=>aj W w.heap.size 84 (ai a D T cd ct)/\aj W (w.heap.size+1) 84 (ai b none none 0 0)) (λ_=>false) ?_
  repeat (refine bK hS.out ?_)
  refine kT 1 8 (v:=.agg (iN D T a.nd cd a.nt ct a.pM a.gi)) rfl hS.out (λW hSw=>ay _ _ ⟨w.heap.size,8,none⟩ rfl rfl (kE hSw.1)) ?_
  repeat (refine bK hS.out ?_)
  refine kT 3 10 (v:=.agg (iN none none b.nd 0 b.nt 0 b.pM b.gi)) rfl hS.out (λW hSw=>ay _ _ ⟨w.heap.size+1,8,none⟩ rfl rfl (kE hSw.2)) ?_;have gz:=zH (show aj (w2.drew.alloc (.cells iP 36)) w.heap.size 84 (ai a D T cd ct)/\aj (w2.drew.alloc (.cells iP 36)) (w.heap.size+1) 84 (ai b none none 0 0) from⟨hS.out.1.alloc _,hS.out.2.alloc _⟩);have nW:=zH (show aj ((w2.drew.alloc (.cells iP 36)).alloc (.cells iP 36)) w.heap.size 84 (ai a D T cd ct)/\aj ((w2.drew.alloc (.cells iP 36)).alloc (.cells iP 36)) (w.heap.size+1) 84 (ai b none none 0 0) from⟨gz.out.1.alloc _,gz.out.2.alloc _⟩);have BO:=(aj.new w2.drew 36 iP).alloc (.cells iP 36);have Gr:=aj.new (w2.drew.alloc (.cells iP 36)) 36 iP;have hne:w2.drew.heap.size≠(w2.drew.alloc (.cells iP 36)).heap.size:=by simp
  have hb4:zB w2 ((w2.drew.alloc (.cells iP 36)).alloc (.cells iP 36)):=((zR w2).drew.alloc (za _) _).alloc (by simp) _;have jm:w2.heap.size<=w2.drew.heap.size:=za _;have qu:w2.heap.size<=(w2.drew.alloc (.cells iP 36)).heap.size:=by simp
  refine gR (rs:=[4,5]) (by kernel_rfl) (by simp) (λi hi=>?_);simp only[zW,zak,or_false] at hi;rcases hi with rfl | rfl
  refine cN 5 (v:=ptr w2.drew.heap.size) (w':=w2.drew.alloc (.cells iP 36)) rfl rfl (by rfl) (by go_simp;rfl) ⟨λ_=>gz.out,?_⟩;simp only[zSA,zSB,zSC];refine fe 5 6 (v:=ptr (w2.drew.alloc (.cells iP 36)).heap.size) (w':=(w2.drew.alloc (.cells iP 36)).alloc (.cells iP 36)) rfl (by go_simp;rfl) (λ_=>nW.out) ?_;generalize((w2.drew.alloc (.cells iP 36)).alloc (.cells iP 36))=w4 at nW BO Gr hb4 ⊢;generalize(w2.drew.alloc (.cells iP 36)).heap.size=g6 at Gr hne qu ⊢;generalize w2.drew.heap.size=g5 at BO hne jm ⊢;rotate_left;refine cN 6 (v:=ptr w2.drew.heap.size) (w':=w2.drew.alloc (.cells iP 36)) rfl rfl (by rfl) (by go_simp;rfl) ⟨λ_=>gz.out,?_⟩;simp only[zSA,zSB,zSC];refine fe 4 5 (v:=ptr (w2.drew.alloc (.cells iP 36)).heap.size) (w':=(w2.drew.alloc (.cells iP 36)).alloc (.cells iP 36)) rfl (by go_simp;rfl) (λ_=>nW.out) ?_;generalize((w2.drew.alloc (.cells iP 36)).alloc (.cells iP 36))=w4 at nW BO Gr hb4 ⊢;generalize(w2.drew.alloc (.cells iP 36)).heap.size=g5 at Gr hne qu ⊢;generalize w2.drew.heap.size=g6 at BO hne jm ⊢;have Xp:=BO;replace BO:=Gr;replace Gr:=Xp;clear Xp;have SB:=hne.symm;replace hne:=SB;clear SB;have mS:=jm;replace jm:=qu;replace qu:=mS;clear mS;all_goals
   have PW:w.heap.size≠g5:=by omega
   have X4:w.heap.size≠g6:=by omega
   have PV:w.heap.size+1≠g5:=by omega
   have X3:w.heap.size+1≠g6:=by omega
   refine jx 6 (w':=w4.setRow g5 (iN D T a.nd cd a.nt ct a.pM a.gi)) rfl (aq _ _ _ ⟨g5,0,none⟩ _ rfl rfl rfl (jU BO)) (λ_=>⟨nW.out.1.keep (ak _ _ _ _ PW),nW.out.2.keep (ak _ _ _ _ PV)⟩) ?_;have SA:=BO.setRow (iN D T a.nd cd a.nt ct a.pM a.gi);have hy6:=Gr.keep (ak w4 g5 g6 (iN D T a.nd cd a.nt ct a.pM a.gi) (λe=>hne e.symm));refine jx 7 (w':=(w4.setRow g5 (iN D T a.nd cd a.nt ct a.pM a.gi)).setRow g6 (iN none none b.nd 0 b.nt 0 b.pM b.gi)) rfl (aq _ _ _ ⟨g6,0,none⟩ _ rfl rfl rfl (jU hy6)) (λ_=>⟨(nW.out.1.keep (ak _ _ _ _ PW)).keep (ak _ _ _ _ X4),(nW.out.2.keep (ak _ _ _ _ PV)).keep (ak _ _ _ _ X3)⟩) ?_;refine aC (by kernel_rfl) ?_ _;rename_i J9 K9 MU aT;refine aT _ _ ?_;clear aT;go_meet
   case rel=>exact⟨g5,g6,rfl,rfl,SA.keep (ak _ _ _ _ hne),hy6.setRow _,below_setRow (below_setRow hb4 jm _) qu _⟩
 case rest=>
 rename_i K8 iO;refine iO _ _ ?_;clear iO;obtain⟨g5,g6,rfl,rfl,h5,h6,fN⟩:=hcut;have hAx:=oh.below fN oh.lt;have jq:=aM.below fN aM.lt;have DR:=zH (hb1.trans (fN.mono hb1.size));have x0:=hAx.cell 0;have x1:=hAx.cell 1;have x2:=hAx.cell 2;have x3:=hAx.cell 3;have x4:=hAx.cell 4;have x5:=hAx.cell 5;have x6:=hAx.cell 6;have x7:=hAx.cell 7;have y0:=jq.cell 0;have y1:=jq.cell 1;have y2:=jq.cell 2;have y3:=jq.cell 3;have y4:=jq.cell 4;have y5:=jq.cell 5;have y6:=jq.cell 6;have y7:=jq.cell 7;have s0:=h5.cell 0;have s1:=h5.cell 1;have s2:=h5.cell 2;have s3:=h5.cell 3;have t0:=h6.cell 0;have t1:=h6.cell 1;have t2:=h6.cell 2;have t3:=h6.cell 3;simp only[ai,iN,zGA,zGB,zGC,Aa,VG] at x0 x1 x2 x3 x4 x5 x6 x7 y0 y1 y2 y3 y4 y5 y6 y7 s0 s1 s2 s3 t0 t1 t2 t3;have HED:=zH (FN (w:=wc) (D:=D) (cd:=cd) hnd);have HEA:=zH (Dv (w:=wc) (D:=T) (cd:=ct) hnt);have qk:((a.kind:Int)==(b.kind:Int))=true:=by simp[hk]
 have qt:((a.tx:Int)==(b.tx:Int))=true:=by simp[ht]
 have qp:((a.prev:Int)==(b.prev:Int))=true:=by simp[hp]
 replace hk:=zH hk;replace ht:=zH ht;replace hp:=zH hp;replace Aa:=zH Aa;replace VG:=zH VG;clear hAx jq h5 h6 fN oh aM hb1;by_cases h0:a.rp=b.rp
 ·have q0:((a.rp:Int)==(b.rp:Int))=true:=by simp[h0]
  replace h0:=zH h0;by_cases h1:a.rs=b.rs
  ·have q1:((a.rs:Int)==(b.rs:Int))=true:=by simp[h1]
   replace h1:=zH h1;by_cases h2:a.next=b.next
   ·have q2:((a.next:Int)==(b.next:Int))=true:=by simp[h2]
    replace h2:=zH h2;by_cases h3:a.number=b.number
    ·have q3:((a.number:Int)==(b.number:Int))=true:=by simp[h3]
     replace h3:=zH h3;by_cases h4:a.body=b.body
     ·have q4:(a.body==b.body)=true:=by simp[h4]
      replace h4:=zH h4;by_cases h5:a.pM=b.pM
      ·have q5:((a.pM:Int)==(b.pM:Int))=true:=by simp[h5]
       replace h5:=zH h5;by_cases h6:a.gi=b.gi
       ·have q6:((a.gi:Int)==(b.gi:Int))=true:=by simp[h6]
        replace h6:=zH h6;by_cases h7:a.nd=b.nd
        ·skip;replace h7:=zH h7;by_cases h8:a.nt=b.nt
         ·skip;replace h8:=zH h8;go_wp2_with fail;refine HED.out.mono ?_;rintro e w3 ⟨rfl,rfl⟩;rw[zbg (h7.out.trans Aa.out)];go_wp2_with fail;refine HEA.out.mono ?_;rintro e w3 ⟨rfl,rfl⟩;rw[zbg (h8.out.trans VG.out)];go_wp2_with fail;go_ret;exact⟨by rw[zbg (Ta hk.out ht.out hp.out h0.out h1.out h2.out h3.out h4.out h5.out h6.out h7.out h8.out)];rfl,DR.out⟩
         ·skip;go_wp2_with fail;refine HED.out.mono ?_;rintro e w3 ⟨rfl,rfl⟩;rw[zbg (h7.out.trans Aa.out)];go_wp2_with fail;refine HEA.out.mono ?_;rintro e w3 ⟨rfl,rfl⟩;rw[zay (λh=>h8 (by rw[h,VG.out]))];go_wp2_with fail;go_ret;exact⟨by rw[zay (λh=>h8 (by rw[h]))];rfl,DR.out⟩
        ·skip;go_wp2_with fail;refine HED.out.mono ?_;rintro e w3 ⟨rfl,rfl⟩;rw[zay (λh=>h7 (by rw[h,Aa.out]))];go_wp2_with fail;go_ret;exact⟨by rw[zay (λh=>h7 (by rw[h]))];rfl,DR.out⟩
       ·have q6:((a.gi:Int)==(b.gi:Int))=false:=by rw[zv];omega
        go_wp2_with fail;go_ret;exact⟨by rw[zay (λh=>h6 (by rw[h]))];rfl,DR.out⟩
      ·have q5:((a.pM:Int)==(b.pM:Int))=false:=by rw[zv];omega
       go_wp2_with fail;go_ret;exact⟨by rw[zay (λh=>h5 (by rw[h]))];rfl,DR.out⟩
     ·have q4:(a.body==b.body)=false:=by simp[h4]
      go_wp2_with fail;go_ret;exact⟨by rw[zay (λh=>h4 (by rw[h]))];rfl,DR.out⟩
    ·have q3:((a.number:Int)==(b.number:Int))=false:=by rw[zv];omega
     go_wp2_with fail;go_ret;exact⟨by rw[zay (λh=>h3 (by rw[h]))];rfl,DR.out⟩
   ·have q2:((a.next:Int)==(b.next:Int))=false:=by rw[zv];omega
    go_wp2_with fail;go_ret;exact⟨by rw[zay (λh=>h2 (by rw[h]))];rfl,DR.out⟩
  ·have q1:((a.rs:Int)==(b.rs:Int))=false:=by rw[zv];omega
   go_wp2_with fail;go_ret;exact⟨by rw[zay (λh=>h1 (by rw[h]))];rfl,DR.out⟩
 ·have q0:((a.rp:Int)==(b.rp:Int))=false:=by rw[zv];omega
  go_wp2_with fail;go_ret;exact⟨by rw[zay (λh=>h0 (by rw[h]))];rfl,DR.out⟩
def Sp.Rec.may (r:Sp.Rec):Bool:=r.fits&&decide (r=r.has)
theorem CF (r:Sp.Rec):r.kind=r.has.kind/\r.tx=r.has.tx/\r.prev=r.has.prev/\r.has.nd=0/\r.has.nt=0:=by
 unfold Sp.Rec.has
 split
 ·exact⟨rfl,rfl,rfl,rfl,rfl⟩
 split
 ·exact⟨rfl,rfl,rfl,rfl,rfl⟩
 split
 ·exact⟨rfl,rfl,rfl,rfl,rfl⟩
 split
 ·exact⟨rfl,rfl,rfl,rfl,rfl⟩
 exact⟨rfl,rfl,rfl,rfl,rfl⟩
theorem S9 {w:World} {r:Sp.Rec} (ho:r.Ok) (h8:r.kind≠8):
 Calls prog 114 #[cE r D T cd ct] w λe w'=>e=.returned (.bool r.may)/\zB w w':=by
 have aM:=aj.new w 84 (ai r D T cd ct);have hb1:=(zR w).alloc (za _) (.cells (ai r D T cd ct) 84);have Sb:=zH (bY aM);have qf:=zH (BB (w:=w.alloc (.cells (ai r D T cd ct) 84)) (D:=D) (T:=T) (cd:=cd) (ct:=ct) ho h8);have cA:=zH aM;have tU:=zH hb1;have H8:=zH h8;clear aM hb1 h8;go_enter func114,ntmps114;go_wp2_with (first
  | ((with_reducible refine aY (v:=cE r D T cd ct) (w':=w.alloc (.cells (ai r D T cd ct) 84)) 6 rfl rfl ?_ ?_);exact ay _ _ ⟨w.heap.size,0,none⟩ rfl rfl Sb.out;simp only[zSA,zSB,zSC]))
 refine qf.out.mono ?_;rintro e w2 ⟨s,rfl,-,hb2⟩;have bB:=cA.out.below hb2 cA.out.lt;have cG:=tU.out.trans (hb2.mono tU.out.size);clear Sb qf cA tU hb2;have HM:=zH (show r.may=(r.fits&&decide (r=r.has)) from rfl);have hS:=zH (show aj w2.drew w.heap.size 84 (ai r D T cd ct) from bB.drew);have HW2:=zH cG;have eo:=zH bB;clear bB cG
 cases hf:r.fits
 ·rw[hf,Bool.false_and] at HM;go_wp2_with fail;refine fQ (λW=>aj W w.heap.size 84 (ai r D T cd ct)) (λ_=>false) ?_
  repeat (refine bK hS.out ?_)
  refine eP 2 12 rfl rfl (by rfl) (by kernel_rfl) (λ_ _ _ h=>h) hS.out ?_;simp only[zSA,zSB,zSC];refine eP 3 13 rfl rfl (by rfl) (by kernel_rfl) (λ_ _ _ h=>h) hS.out ?_;simp only[zSA,zSB,zSC];refine eP 4 14 rfl rfl (by rfl) (by kernel_rfl) (λ_ _ _ h=>h) hS.out ?_;simp only[zSA,zSB,zSC];refine eP 5 15 rfl rfl (by rfl) (by kernel_rfl) (λ_ _ _ h=>h) hS.out ?_;simp only[zSA,zSB,zSC]
  repeat (refine bK hS.out ?_)
  refine aC (by kernel_rfl) ?_ _;rename_i K9 aT;refine aT _ _ ?_;clear aT;go_wp2_with fail;go_ret;exact⟨by rw[HM.out];rfl,HW2.out.drew⟩
 ·rw[hf,Bool.true_and] at HM;have HH:=zH (S_ (w:=w2.drew) (r:=r) (D:=D) (T:=T) (cd:=cd) (ct:=ct) H8.out);go_wp2_with fail;refine fQ (λW=>aj W w.heap.size 84 (ai r D T cd ct)) (λ_=>false) ?_
  repeat (refine bK hS.out ?_)
  refine kT 2 12 (v:=cE r D T cd ct) rfl hS.out (λW hSw=>ay _ _ ⟨w.heap.size,0,none⟩ rfl rfl (bY hSw)) ?_;refine kT 3 13 (v:=cE r D T cd ct) rfl hS.out (λW hSw=>ay _ _ ⟨w.heap.size,0,none⟩ rfl rfl (bY hSw)) ?_;refine aI 4 14 (w':=w2.drew) rfl rfl (by rfl) (by kernel_rfl) ?_ HH.out ?_
  ·go_simp
  rintro e w3 ⟨rfl,hb3⟩;have gz:=zH (show aj w3 w.heap.size 84 (ai r D T cd ct) from eo.out.drew.below hb3 eo.out.drew.lt);have hw3:=HW2.out.drew.trans (hb3.mono HW2.out.drew.size);have hsame:=CF r;have GL:=zH (OD (w:=w3) (a:=r) (b:=r.has) (D:=D) (T:=T) (cd:=cd) (ct:=ct) hsame.1 hsame.2.1 hsame.2.2.1 hsame.2.2.2.1 hsame.2.2.2.2 ho.nd ho.nt);clear hsame;refine⟨_,rfl,λ_=>gz.out,?_⟩;simp only[zSA,zSB,zSC];refine aI 5 15 (w':=w3) rfl rfl (by rfl) (by kernel_rfl) ?_ GL.out ?_
  ·go_simp
  rintro e w4 ⟨rfl,hb4⟩;have nW:=zH (show aj w4 w.heap.size 84 (ai r D T cd ct) from gz.out.below hb4 gz.out.lt);have hw4:=hw3.trans (hb4.mono hw3.size);refine⟨_,rfl,λ_=>nW.out,?_⟩;simp only[zSA,zSB,zSC]
  repeat (refine bK nW.out ?_)
  refine aC (by kernel_rfl) ?_ _;rename_i K9 aT;refine aT _ _ ?_;clear aT;go_wp2_with fail;go_ret;exact⟨by rw[HM.out];rfl,hw4⟩
def Zk (r:Sp.Rec) (v:Value):Prop:=(r.may=true/\v=.tuple #[str r.bytes,.int .i64 0])\/(r.may=false/\v=.tuple #[str [],.int .i64 2])
theorem xy {w:World} {r:Sp.Rec} (ho:r.Ok) (h8:r.kind≠8):
 Calls prog 41 #[cE r D T cd ct] w λe w'=>(∃v,e=.returned v/\Zk r v)/\zB w w':=by
 have aM:=aj.new w 84 (ai r D T cd ct);have hb1:=(zR w).alloc (za _) (.cells (ai r D T cd ct) 84);have Sb:=zH (bY aM);have HM:=zH (S9 (w:=w.alloc (.cells (ai r D T cd ct) 84)) (D:=D) (T:=T) (cd:=cd) (ct:=ct) ho h8);have cA:=zH aM;have tU:=zH hb1;have H8:=zH h8;clear aM hb1 h8;go_enter func41,ntmps41;go_wp2_with (first
  | ((with_reducible refine aY (v:=cE r D T cd ct) (w':=w.alloc (.cells (ai r D T cd ct) 84)) 6 rfl rfl ?_ ?_);exact ay _ _ ⟨w.heap.size,0,none⟩ rfl rfl Sb.out;simp only[zSA,zSB,zSC]))
 refine HM.out.mono ?_;rintro e w2 ⟨rfl,hb2⟩;have bB:=cA.out.below hb2 cA.out.lt;have cG:=tU.out.trans (hb2.mono tU.out.size);clear Sb HM cA tU hb2
 cases hm:r.may
 ·have HM2:=zH hm;clear hm;go_wp2_with fail
  go_ret2
  exact⟨⟨_,rfl,.inr ⟨HM2.out,rfl⟩⟩,cG⟩
 ·have vp:=zH (bY bB);have qf:=zH (BB (w:=w2) (D:=D) (T:=T) (cd:=cd) (ct:=ct) ho H8.out);have hf:r.fits=true:=by unfold Sp.Rec.may at hm;simp at hm;exact hm.1
  have HF:=zH hf;have HM2:=zH hm;clear hm;have HW:=zH cG;clear hf bB cG;go_wp2_with (first
   | ((with_reducible refine aY (v:=cE r D T cd ct) (w':=w2) 10 rfl rfl ?_ ?_);exact ay _ _ ⟨w.heap.size,0,none⟩ rfl rfl vp.out;simp only[zSA,zSB,zSC]))
  refine qf.out.mono ?_;rintro e w3 ⟨s,rfl,hs,hb3⟩;obtain rfl:=hs HF.out;have hb4:=HW.out.trans (hb3.mono HW.out.size);go_wp2_with fail
  go_ret2
  exact⟨⟨_,rfl,.inl ⟨HM2.out,rfl⟩⟩,hb4⟩
def dy (x:Sp.bI):Sp.Rec:=⟨8,0,0,0,0,0,0,[],x.d.length,x.t.length,x.tx,x.num⟩
def Sp.bI.text (x:Sp.bI):Sp.Bs:=(dy x).head++x.bytes
theorem Tb {x:Sp.bI} (h:x.Fits):(dy x).Ok:=
 ⟨by show 8<256;omega,by show 0<_;omega,by show 0<_;omega,by show 0<_;omega,by show 0<_;omega,by show 0<_;omega,by show 0<_;omega,by show 0<=_;omega,by have:=h.dl;show x.d.length<=_;omega,by have:=h.tl;show x.t.length<=_;omega⟩
theorem ud {x:Sp.bI} (h:aj W g 84 (ai (dy x) D T cd ct)):
 (loadVar 36 ⟨g,8,none⟩).run prog W=.ok (iz x D T cd ct) W:=kE h
theorem xz {G:af} {w:World} {x:Sp.bI} (hT:bS G w x D T) (hF:x.Fits):
 Calls prog 115 #[cE (dy x) D T cd ct] w λe w'=>e=.returned (.tuple #[str x.text,.bool true])/\zB w w':=by
 have HT:=zH hT;have HF:=zH hF;have ho:=Tb hF;have Iz:x.text=(dy x).head++x.bytes:=rfl;have e0:(dy x).kind=8:=rfl;have e1:(dy x).tx=0:=rfl;have e2:(dy x).prev=0:=rfl;have e7:(dy x).body=[]:=rfl;have hbl:x.bytes.length<=100000:=by
  have h1:=hF.dl;have h2:=hF.tl;unfold Sp.bI.bytes Sp.bI.pre;simp only[zo,Sp.aV,Sp.cw,Sp.eK];omega
 clear hT hF;have Cm:=zH fun(W:World) (h:bS G W x D T)=>EE (w:=W) (cd:=cd) (ct:=ct) h HF.out;have HFT:=zH fun(W:World) (h:bS G W x D T)=>OI (w:=W) (cd:=cd) (ct:=ct) h HF.out;have R6:=zH fun(W:World) (h:aj W w.heap.size 84 (ai (dy x) D T cd ct))=>ud h;generalize hr:dy x=r at*;generalize x.bytes=tb at*;have aM:=aj.new w 84 (ai r D T cd ct);have hb1:=(zR w).alloc (za _) (.cells (ai r D T cd ct) 84);have Gy:=ho.kind;have hbd:=ho.body;have H8:=zH e0;go_enter func115,ntmps115;go_upto_region 1 with fail;change Code.wp _ _ _ _ (w.alloc (.cells (ai r D T cd ct) 84));generalize w.alloc (.cells (ai r D T cd ct) 84)=w1 at aM hb1 ⊢;have c0:=aM.cell 0;have c1:=aM.cell 1;have c2:=aM.cell 2;have c3:=aM.cell 3;have c4:=aM.cell 4;have c5:=aM.cell 5;have c6:=aM.cell 6;have c7:=aM.cell 7;simp only[ai,zGA,zGB,zGC] at c0 c1 c2 c3 c4 c5 c6 c7;clear e0;go_cut [4] from 8 to 15 (λv wx=>v=.bool true/\w1=wx)
 case first=>
  have q7:((r.kind:Int)==7)=false:=by rw[zv];have:=H8.out;omega
  have q8:((r.kind:Int)==8)=true:=by rw[beq_iff_eq];have:=H8.out;omega
  go_wp2_with fail;go_meet
  case rel=>exact⟨rfl,rfl⟩
 case rest=>
 rename_i K8 iO;refine iO _ _ ?_;clear iO;obtain⟨rfl,rfl⟩:=hcut;have qn:((r.tx:Int)==0)=true:=by rw[e1];rfl
 go_upto_region 3 with fail;have qp:((r.prev:Int) != 0)=false:=by rw[e2];rfl
 have q6:((r.kind:Int) != 6)=(r.kind != 6):=by rw[Bool.eq_iff_iff];simp;omega
 go_cut [40] from 19 to 40 (λv wx=>v=.bool false/\w1=wx)
 case first=>
  go_wp2_with fail;go_meet
  case rel=>exact⟨rfl,rfl⟩
 case rest=>
 rename_i K8 iO;refine iO _ _ ?_;clear iO;obtain⟨rfl,rfl⟩:=hcut;clear qn qp q6;have he:r.early=false:=by unfold Sp.Rec.early Sp.Rec.check Sp.Rec.nobody;rw[H8.out,e1,e2];rfl
 replace he:=zH he
 ·go_upto_region 5 with fail;go_cut [6] from 41 to 52 (λv wx=>v=str r.head/\zB w1 wx)
  case first=>
   have hcv:IntKind.u64.wrap (r.kind:Int)=(r.kind:Nat):=by simp[IntKind.wrap,IntKind.signed,IntKind.bits];omega
   have HG:=zH (show w.heap.size<w1.drew.heap.size from aM.lt);have tJ:=zH (za w1.drew.heap.size);have hS:=zH (show w1.drew.cell? ⟨w.heap.size,0,none⟩=some (.int .u8 r.kind)/\w1.drew.cell? ⟨w.heap.size,1,none⟩=some (.int .u64 r.tx)/\w1.drew.cell? ⟨w.heap.size,2,none⟩=some (.int .u64 r.prev) from⟨c0,c1,c2⟩);have tP:=Sp.aV 1 r.kind;have hl2:=Sp.aV 8 r.tx;have P6:=Sp.aV 8 r.prev;have HH:=zH (show r.head=Sp.be 1 r.kind++Sp.be 8 r.tx++Sp.be 8 r.prev from rfl);have P1:=zH fun(W:World)=>dz r.kind 1 W (by omega) (by omega) (by omega) (by omega);have P2:=zH fun(W:World)=>dz r.tx 8 W (by omega) (by omega) ho.tx ho.tx;have P3:=zH fun(W:World)=>dz r.prev 8 W (by omega) (by omega) ho.prev ho.prev;generalize Sp.be 1 r.kind=b1 at*;generalize Sp.be 8 r.tx=b2 at*;generalize Sp.be 8 r.prev=b3 at*;clear c0 c1 c2 c3 c4 c5 c6 c7;refine fQ (λW=>zC W w.heap.size 0 (.int .u8 r.kind)/\zC W w.heap.size 1 (.int .u64 r.tx)/\zC W w.heap.size 2 (.int .u64 r.prev)) (λ_=>false) ?_
   repeat (refine bK hS.out ?_)
   refine aI 3 44 (w':=w1.drew) rfl rfl (by rfl) (by kernel_rfl) ?_ (P1.out _) ?_
   ·go_simp
   rintro e w2 ⟨rfl,hw2⟩;have e9:=zH (show w2.cell? ⟨w.heap.size,0,none⟩=some (.int .u8 r.kind)/\w2.cell? ⟨w.heap.size,1,none⟩=some (.int .u64 r.tx)/\w2.cell? ⟨w.heap.size,2,none⟩=some (.int .u64 r.prev) from⟨(hw2.cell (p:=⟨w.heap.size,_,none⟩) (show w.heap.size<_ from zf HG.out tJ.out)).trans hS.out.1,(hw2.cell (p:=⟨w.heap.size,_,none⟩) (show w.heap.size<_ from zf HG.out tJ.out)).trans hS.out.2.1,(hw2.cell (p:=⟨w.heap.size,_,none⟩) (show w.heap.size<_ from zf HG.out tJ.out)).trans hS.out.2.2⟩);have jg:=zH (zl tJ.out hw2.size);refine⟨_,rfl,λ_=>e9.out,?_⟩;simp only[zSA,zSB,zSC];refine aI 6 47 (w':=w2) rfl rfl (by rfl) (by kernel_rfl) ?_ (P2.out _) ?_
   ·go_simp
   rintro e w3 ⟨rfl,hw3⟩;have fO:=zH (show w3.cell? ⟨w.heap.size,0,none⟩=some (.int .u8 r.kind)/\w3.cell? ⟨w.heap.size,1,none⟩=some (.int .u64 r.tx)/\w3.cell? ⟨w.heap.size,2,none⟩=some (.int .u64 r.prev) from⟨(hw3.cell (p:=⟨w.heap.size,_,none⟩) (show w.heap.size<_ from zf HG.out jg.out)).trans e9.out.1,(hw3.cell (p:=⟨w.heap.size,_,none⟩) (show w.heap.size<_ from zf HG.out jg.out)).trans e9.out.2.1,(hw3.cell (p:=⟨w.heap.size,_,none⟩) (show w.heap.size<_ from zf HG.out jg.out)).trans e9.out.2.2⟩);have vX:=zH (zl jg.out hw3.size);refine⟨_,rfl,λ_=>fO.out,?_⟩;simp only[zSA,zSB,zSC]
   repeat (refine bK fO.out ?_)
   refine aI 10 51 (w':=w3) rfl rfl (by rfl) (by kernel_rfl) ?_ (P3.out _) ?_
   ·go_simp
   rintro e w4 ⟨rfl,hw4⟩;have QK:=zH (show w4.cell? ⟨w.heap.size,0,none⟩=some (.int .u8 r.kind)/\w4.cell? ⟨w.heap.size,1,none⟩=some (.int .u64 r.tx)/\w4.cell? ⟨w.heap.size,2,none⟩=some (.int .u64 r.prev) from⟨(hw4.cell (p:=⟨w.heap.size,_,none⟩) (show w.heap.size<_ from zf HG.out vX.out)).trans fO.out.1,(hw4.cell (p:=⟨w.heap.size,_,none⟩) (show w.heap.size<_ from zf HG.out vX.out)).trans fO.out.2.1,(hw4.cell (p:=⟨w.heap.size,_,none⟩) (show w.heap.size<_ from zf HG.out vX.out)).trans fO.out.2.2⟩);have HZw4:=zH (zl vX.out hw4.size);refine⟨_,rfl,λ_=>QK.out,?_⟩;simp only[zSA,zSB,zSC]
   repeat (refine bK QK.out ?_)
   refine aC (by kernel_rfl) ?_ _;rename_i J9 K9 MU aT;refine aT _ _ ?_;clear aT;go_meet
   case rel=>exact⟨by rw[HH.out,aP,aP],((zR _).drew.trans hw2).trans ((hw3.mono hw2.size).trans (hw4.mono (zl hw2.size hw3.size)))⟩
  case rest=>
  rename_i K8 iO;refine iO _ _ ?_;clear iO;obtain⟨rfl,Dc⟩:=hcut;have fN:=hb1.trans (Dc.mono hb1.size);have jq:=aM.below Dc aM.lt;have kW:=jq.lt;clear c0 c1 c2 c3 c4 c5 c6 c7 Dc aM hb1;have c0:=jq.cell 0;have c3:=jq.cell 3;have c4:=jq.cell 4;have c5:=jq.cell 5;have c6:=jq.cell 6;have c7:=jq.cell 7;simp only[ai,zGA,zGB,zGC] at c0 c3 c4 c5 c6 c7;have hhl:r.head.length=17:=by unfold Sp.Rec.head;simp
  have DR:=zH jq;replace jq:=DR.out;obtain⟨hd,Ye⟩:∃hd,r.head=hd:=⟨_,rfl⟩;rw[Ye] at hhl ⊢;have HH:=zH Ye;clear Ye jq;go_upto_region 6 with fail;go_cut [7] from 53 to 62 (λv wy=>v=.bool false/\wc=wy)
  case first=>
   rw[e7] at c7;go_wp2_with fail;go_meet
   case rel=>exact⟨rfl,rfl⟩
  case rest=>
  rename_i K8 iO;refine iO _ _ ?_;clear iO;obtain⟨rfl,rfl⟩:=hcut;have q1:((r.kind:Int)==1)=false:=by have:=H8.out;rw[zv];omega
  have q5:((r.kind:Int)==5)=false:=by have:=H8.out;rw[zv];omega
  have q7:((r.kind:Int)==7)=false:=by have:=H8.out;rw[zv];omega
  have q2:((r.kind:Int)==2)=false:=by have:=H8.out;rw[zv];omega
  have q6:((r.kind:Int)==6)=false:=by have:=H8.out;rw[zv];omega
  have q3:((r.kind:Int)==3)=false:=by have:=H8.out;rw[zv];omega
  have q4:((r.kind:Int)==4)=false:=by have:=H8.out;rw[zv];omega
  have q8:((r.kind:Int)==8)=true:=by have:=H8.out;rw[beq_iff_eq];omega
  clear c3 c4 c5 c6 c7;go_upto_region 21 with fail;have hS:=zH (show aj wc.drew w.heap.size 84 (ai r D T cd ct)/\bS G wc.drew x D T from⟨DR.out.drew,(HT.out.below fN).below (zR _).drew⟩);refine fQ (λW=>aj W w.heap.size 84 (ai r D T cd ct)/\bS G W x D T) (λ_=>false) ?_
  repeat (refine bK hS.out ?_)
  refine kT 2 139 (v:=iz x D T cd ct) rfl hS.out (λW hSw=>ay _ _ ⟨w.heap.size,8,none⟩ rfl rfl (R6.out W hSw.1)) ?_
  repeat (refine bK hS.out ?_)
  refine kT 6 143 (v:=iz x D T cd ct) rfl hS.out (λW hSw=>ay _ _ ⟨w.heap.size,8,none⟩ rfl rfl (R6.out W hSw.1)) ?_;refine aI 3 140 (w':=wc.drew) rfl rfl (by rfl) (by kernel_rfl) ?_ (Cm.out _ hS.out.2) ?_
  ·go_simp
  rintro e w3 ⟨rfl,hb3⟩;have gz:=zH (show aj w3 w.heap.size 84 (ai r D T cd ct)/\bS G w3 x D T from⟨hS.out.1.below hb3 hS.out.1.lt,hS.out.2.below hb3⟩);have hw3:=fN.drew.trans (hb3.mono fN.drew.size);refine⟨_,rfl,λ_=>gz.out,?_⟩;simp only[zSA,zSB,zSC];have vg:¬9223372036854775807<17+tb.length:=by omega
  repeat (refine bK gz.out ?_)
  refine aI 7 144 (w':=w3) rfl rfl (by rfl) (by kernel_rfl) ?_ (HFT.out _ gz.out.2) ?_
  ·go_simp
  rintro e w4 ⟨rfl,hb4⟩;have nW:=zH (show aj w4 w.heap.size 84 (ai r D T cd ct)/\bS G w4 x D T from⟨gz.out.1.below hb4 gz.out.1.lt,gz.out.2.below hb4⟩);have hw4:=hw3.trans (hb4.mono hw3.size);refine⟨_,rfl,λ_=>nW.out,?_⟩;simp only[zSA,zSB,zSC]
  repeat (refine bK nW.out ?_)
  refine aC (by kernel_rfl) ?_ _;rename_i J9 K9 MU aT;refine aT _ _ ?_;clear aT;go_wp2_with fail
  go_ret2
  exact⟨by rw[Iz,HH.out];rfl,hw4⟩
theorem Du {G1 G2:af} {w:World} {l:List (Nat×Nat)} {D':Option Addr} {DC:Nat} (h1:Reads G1 w 2 D l.length (tj l)) (h2:Reads G2 w 2 D' l.length (tj l)) (hd:l.length<=1000000):
 Calls prog 236 #[.slice D l.length cd,.slice D' l.length DC] w λe w'=>e=.returned (.bool true)/\zB w w':=by
 have JL:=zH h1;have UX:=zH h2;clear h1 h2;go_enter func236,ntmps236;go_wp2_with fail;go_loopw [13] (λv13 wr=>∃i:Nat,i<=l.length/\v13=.int .i64 i/\zB w wr) (λv13 _=>l.length-(intOf v13).toNat)
 case atStart=>exact⟨0,by omega,rfl,Below.refl _ _⟩
 case round=>
  obtain⟨i,hi,rfl,hbr⟩:=hrel;by_cases hlt:i<l.length
  ·obtain⟨b,o,rfl,_,cH,hc1⟩:=(Reads.below JL.out hbr).2 (by omega);obtain⟨b',o',rfl,_,YD,hc2⟩:=(Reads.below UX.out hbr).2 (by omega);have e1:=hc1 _ _ (gU hlt).1;have e2:=hc1 _ _ (gU hlt).2;have e3:=hc2 _ _ (gU hlt).1;have e4:=hc2 _ _ (gU hlt).2;rw[<-Nat.add_assoc] at e2 e4;have hmeas:i+1<=l.length:=hlt;have jB:=zH hbr;generalize l[i].1=x1 at*;generalize l[i].2=x2 at*;clear hc1 hc2 hbr hi;go_wp2_with fail;go_quiet (fail);go_wp2_with fail;go_roundw
   case rel=>exact⟨i+1,hmeas,by go_num,below_drewN' jB.out _⟩
   case measure=>simp[intOf];omega
  ·obtain rfl:i=l.length:=by omega
   have jB:=zH hbr;clear hbr hi hlt;go_wp2_with fail;go_ret;exact⟨rfl,jB.out⟩
theorem Ba {G1 G2:af} {w:World} {l:List Sp.Ac} {D':Option Addr} {DC:Nat} (h1:Reads G1 w 4 D l.length (tG l)) (h2:Reads G2 w 4 D' l.length (tG l)) (hd:l.length<=1000000):
 Calls prog 237 #[.slice D l.length cd,.slice D' l.length DC] w λe w'=>e=.returned (.bool true)/\zB w w':=by
 have JL:=zH h1;have UX:=zH h2;clear h1 h2;go_enter func237,ntmps237;go_wp2_with fail;go_loopw [13] (λv13 wr=>∃i:Nat,i<=l.length/\v13=.int .i64 i/\zB w wr) (λv13 _=>l.length-(intOf v13).toNat)
 case atStart=>exact⟨0,by omega,rfl,Below.refl _ _⟩
 case round=>
  obtain⟨i,hi,rfl,hbr⟩:=hrel;by_cases hlt:i<l.length
  ·obtain⟨b,o,rfl,_,cH,hc1⟩:=(Reads.below JL.out hbr).2 (by omega);obtain⟨b',o',rfl,_,YD,hc2⟩:=(Reads.below UX.out hbr).2 (by omega);obtain⟨q1,q2,q3,q4⟩:=yU hlt;have e1:=hc1 _ _ q1;have e2:=hc1 _ _ q2;have e3:=hc1 _ _ q3;have e4:=hc1 _ _ q4;have f1:=hc2 _ _ q1;have f2:=hc2 _ _ q2;have f3:=hc2 _ _ q3;have f4:=hc2 _ _ q4;rw[<-Nat.add_assoc] at e2 e3 e4 f2 f3 f4;clear q1 q2 q3 q4;have hmeas:i+1<=l.length:=hlt;have jB:=zH hbr;generalize l[i].tx=x1 at*;generalize l[i].first=x2 at*
   generalize l[i].last=x3 at*;generalize l[i].next=x4 at*
   clear hc1 hc2 hbr hi;go_wp2_with fail;go_quiet (fail);go_wp2_with fail;go_roundw
   case rel=>exact⟨i+1,hmeas,by go_num,below_drewN' jB.out _⟩
   case measure=>simp[intOf];omega
  ·obtain rfl:i=l.length:=by omega
   have jB:=zH hbr;clear hbr hi hlt;go_wp2_with fail;go_ret;exact⟨rfl,jB.out⟩
theorem Hj {x:Sp.bI} (h:aj W g 84 (ai (dy x).base none none 0 0)):
 (storeVar 36 ⟨g,8,none⟩ (iz x D T cd ct)).run prog W=.ok () (W.setRow g (ai (dy x) D T cd ct)):=
 ax W g 8 _ _ _ _ h lq (by show 8+4<=12;omega) (by simp[bJ,Value.oneCell'])
theorem OH {w:World} {x:Sp.bI}:
 Calls prog 182 #[cE (dy x) D T cd ct] w λe w'=>e=.returned (cE (dy x) D T cd ct)/\zB w w':=by
 have PL:∀(W:World) (g:Nat),aj W g 84 (ai (dy x) D T cd ct)->(loadVar 36 ⟨g,8,none⟩).run prog W=.ok (iz x D T cd ct) W:=λ_ _ h=>ud h;have XL:∀(W:World) (g:Nat),aj W g 84 (ai (dy x).base none none 0 0)->(storeVar 36 ⟨g,8,none⟩ (iz x D T cd ct)).run prog W=.ok () (W.setRow g (ai (dy x) D T cd ct)):=λ_ _ h=>Hj h;have h8:(dy x).kind=8:=rfl;replace PL:=zH PL;replace XL:=zH XL;generalize hr:dy x=r at*;clear hr;have aM:=aj.new w 84 (ai r D T cd ct);have hb1:=(zR w).alloc (za _) (.cells (ai r D T cd ct) 84);have H8:=zH h8;clear h8;go_enter func182,ntmps182;go_upto_region 1 with fail;change Code.wp _ _ _ _ ((w.alloc (.cells (ai r D T cd ct) 84)).alloc (.cells (ai cC none none 0 0) 84));have hb2:=hb1.alloc (by simp) (.cells (ai cC none none 0 0) 84);have bB:=aM.alloc (.cells (ai cC none none 0 0) 84);have FJ:=aj.new (w.alloc (.cells (ai r D T cd ct) 84)) 84 (ai cC none none 0 0);have hsz:(w.alloc (.cells (ai r D T cd ct) 84)).heap.size=w.heap.size+1:=by simp
 rw[hsz] at FJ;clear hsz aM hb1;generalize(w.alloc (.cells (ai r D T cd ct) 84)).alloc (.cells (ai cC none none 0 0) 84)=w2 at hb2 bB FJ ⊢;have hz:aj (w2.alloc (.cells (ai cC none none 0 0) 84)) w2.heap.size 84 (ai cC none none 0 0):=aj.new _ _ _;have HS:=zH (eB (r:=r.base) (D:=none) (T:=none) (cd:=0) (ct:=0) hz);have uw:zB w2 ((w2.alloc (.cells (ai cC none none 0 0) 84)).setRow w2.heap.size (ai r.base none none 0 0)):=below_setRow ((zR w2).alloc (za _) _) (za _) _;have oO:aj ((w2.alloc (.cells (ai cC none none 0 0) 84)).setRow w2.heap.size (ai r.base none none 0 0)) w2.heap.size 84 (ai r.base none none 0 0):=hz.setRow _;have cg:=bB.below uw bB.lt;have Uo:=FJ.below uw FJ.lt;have hb3:=hb2.trans (uw.mono hb2.size);have c0:=bB.cell 0;have c1:=bB.cell 1;have c2:=bB.cell 2;simp only[ai,zGA,zGB,zGC] at c0 c1 c2;have hn1:w.heap.size≠w2.heap.size:=by have:=bB.lt;omega
 have hn2:w.heap.size+1≠w2.heap.size:=by have:=FJ.lt;omega
 have hgx:w.heap.size<=w2.heap.size:=hb2.size;replace oO:=zH oO;replace cg:=zH cg;replace Uo:=zH Uo;replace hb3:=zH hb3;clear hz uw hb2 bB FJ;go_upto_region 2 with(first
  | ((with_reducible refine wpList_skip (w':=(w2.alloc (.cells (ai cC none none 0 0) 84)).setRow w2.heap.size (ai r.base none none 0 0)) rfl rfl ?_ ?_);exact aq _ _ _ ⟨w2.heap.size,0,none⟩ (cE r.base none none 0 0) rfl rfl rfl HS.out))
 clear HS c0 c1 c2;generalize(w2.alloc (.cells (ai cC none none 0 0) 84)).setRow w2.heap.size (ai r.base none none 0 0)=w3 at oO cg Uo hb3 ⊢;obtain⟨gx,hg⟩:=zE w2.heap.size;rw[<-hg] at oO hn1 hn2 hgx;rw[<-hg];clear hg;have c0:=cg.out.cell 0;simp only[ai,zGA,zGC] at c0;go_upto_block 0 with fail;clear c0;go_cut [] from 13 to 46 (λwx=>aj wx gx 84 (ai r D T cd ct)/\aa (only gx) (only gx) w3 wx)
 case first=>
  have q2:((r.kind:Int)==2)=false:=by have:=H8.out;rw[zv];omega
  have q6:((r.kind:Int)==6)=false:=by have:=H8.out;rw[zv];omega
  have q3:((r.kind:Int)==3)=false:=by have:=H8.out;rw[zv];omega
  have q4:((r.kind:Int)==4)=false:=by have:=H8.out;rw[zv];omega
  have q8:((r.kind:Int)==8)=true:=by have:=H8.out;rw[beq_iff_eq];omega
  have HL8:=zH (PL.out _ _ cg.out);have HS8:=zH (XL.out _ _ oO.out);go_wp2_with (first
   | ((with_reducible refine aY (v:=iz x D T cd ct) (w':=w3) 45 rfl rfl ?_ ?_);exact ay _ _ ⟨w.heap.size,8,none⟩ rfl rfl HL8.out;simp only[zSA,zSB,zSC])
   | ((with_reducible refine wpList_skip (w':=w3.setRow gx (ai r D T cd ct)) rfl rfl ?_ ?_);exact aq _ _ _ ⟨gx,8,none⟩ (iz x D T cd ct) rfl rfl rfl HS8.out))
  go_meet
  case rel=>exact⟨oO.out.setRow _,(aa.refl (only gx) w3).setRow (.inl rfl) _⟩
 case rest=>
 rename_i K8 iO;refine iO _ _ ?_;clear iO;obtain⟨hXx,MQ⟩:=hcut;have HL:=zH (bY hXx);have YZ:=Uo.out.turns MQ hn2;have HS:=zH (eB (r:=r) (D:=D) (T:=T) (cd:=cd) (ct:=ct) YZ);have fN:zB w wc:=hb3.out.trans (MQ.below (show w.heap.size<=w3.heap.size from hb3.out.size) (λb hb=>by have hb:b=gx:=hb;omega));have cS:zB w (wc.setRow (w.heap.size+1) (ai r D T cd ct)):=below_setRow fN (by omega) _;have hC5:=YZ.setRow (ai r D T cd ct);have mj:=zH cS;have HC5:=zH hC5;clear hXx MQ YZ fN cS hC5;go_wp2_with (first
  | ((with_reducible refine aY (v:=cE r D T cd ct) (w':=wc) 47 rfl rfl ?_ ?_);exact ay _ _ ⟨gx,0,none⟩ rfl rfl HL.out;simp only[zSA,zSB,zSC])
  | ((with_reducible refine wpList_skip (w':=wc.setRow (w.heap.size+1) (ai r D T cd ct)) rfl rfl ?_ ?_);exact aq _ _ _ ⟨w.heap.size+1,0,none⟩ (cE r D T cd ct) rfl rfl rfl HS.out))
 exact bodyPost_ret (v:=cE r D T cd ct) (results_cell_row rfl _ _ _ _ _ _ _ rfl HC5.out underlying84 rfl xw) rfl ⟨rfl,mj.out⟩
theorem LV {G:af} {w:World} {x:Sp.bI} (hT:bS G w x D T) (hF:x.Fits):
 Calls prog 181 #[cE (dy x) D T cd ct,cE (dy x) D T cd ct] w λe w'=>e=.returned (.bool true)/\zB w w':=by
 have hnd:(dy x).nd=x.d.length:=rfl;have hnt:(dy x).nt=x.t.length:=rfl;have Gz:=hF.dl;have Gv:=hF.tl;have HT:=zH hT;clear hT hF;generalize dy x=a at*;have oh:=(aj.new w 84 (ai a D T cd ct)).alloc (.cells (ai a D T cd ct) 84);have aM:=aj.new (w.alloc (.cells (ai a D T cd ct) 84)) 84 (ai a D T cd ct);have hsz:(w.alloc (.cells (ai a D T cd ct) 84)).heap.size=w.heap.size+1:=by simp
 have hb1:=((zR w).alloc (za _) (.cells (ai a D T cd ct) 84)).alloc (by simp) (.cells (ai a D T cd ct) 84);rw[hsz] at aM;clear hsz;go_enter func181,ntmps181;go_upto_region 1 with fail;change Code.wp _ _ _ _ ((w.alloc (.cells (ai a D T cd ct) 84)).alloc (.cells (ai a D T cd ct) 84));generalize(w.alloc (.cells (ai a D T cd ct) 84)).alloc (.cells (ai a D T cd ct) 84)=w2 at oh aM hb1 ⊢;go_cut [5,6] from 5 to 10 (λv5 v6 wx=>∃g5 g6,v5=ptr g5/\v6=ptr g6/\aj wx g5 36 (iN D T a.nd cd a.nt ct a.pM a.gi)/\aj wx g6 36 (iN D T a.nd cd a.nt ct a.pM a.gi)/\zB w2 wx)
 case first=>
  have hS:=zH (show aj w2.drew w.heap.size 84 (ai a D T cd ct)/\aj w2.drew (w.heap.size+1) 84 (ai a D T cd ct) from⟨oh.drew,aM.drew⟩);have rX:=oh.lt;have hbl:=aM.lt;clear oh aM;refine fQ (λW=>aj W w.heap.size 84 (ai a D T cd ct)/\aj W (w.heap.size+1) 84 (ai a D T cd ct)) (λ_=>false) ?_
  repeat (refine bK hS.out ?_)
  refine kT 1 8 (v:=.agg (iN D T a.nd cd a.nt ct a.pM a.gi)) rfl hS.out (λW hSw=>ay _ _ ⟨w.heap.size,8,none⟩ rfl rfl (kE hSw.1)) ?_
  repeat (refine bK hS.out ?_)
  refine kT 3 10 (v:=.agg (iN D T a.nd cd a.nt ct a.pM a.gi)) rfl hS.out (λW hSw=>ay _ _ ⟨w.heap.size+1,8,none⟩ rfl rfl (kE hSw.2)) ?_;have gz:=zH (show aj (w2.drew.alloc (.cells iP 36)) w.heap.size 84 (ai a D T cd ct)/\aj (w2.drew.alloc (.cells iP 36)) (w.heap.size+1) 84 (ai a D T cd ct) from⟨hS.out.1.alloc _,hS.out.2.alloc _⟩);have nW:=zH (show aj ((w2.drew.alloc (.cells iP 36)).alloc (.cells iP 36)) w.heap.size 84 (ai a D T cd ct)/\aj ((w2.drew.alloc (.cells iP 36)).alloc (.cells iP 36)) (w.heap.size+1) 84 (ai a D T cd ct) from⟨gz.out.1.alloc _,gz.out.2.alloc _⟩);have BO:=(aj.new w2.drew 36 iP).alloc (.cells iP 36);have Gr:=aj.new (w2.drew.alloc (.cells iP 36)) 36 iP;have hne:w2.drew.heap.size≠(w2.drew.alloc (.cells iP 36)).heap.size:=by simp
  have hb4:zB w2 ((w2.drew.alloc (.cells iP 36)).alloc (.cells iP 36)):=((zR w2).drew.alloc (za _) _).alloc (by simp) _;have jm:w2.heap.size<=w2.drew.heap.size:=za _;have qu:w2.heap.size<=(w2.drew.alloc (.cells iP 36)).heap.size:=by simp
  refine gR (rs:=[4,5]) (by kernel_rfl) (by simp) (λi hi=>?_);simp only[zW,zak,or_false] at hi;rcases hi with rfl | rfl
  refine cN 5 (v:=ptr w2.drew.heap.size) (w':=w2.drew.alloc (.cells iP 36)) rfl rfl (by rfl) (by go_simp;rfl) ⟨λ_=>gz.out,?_⟩;simp only[zSA,zSB,zSC];refine fe 5 6 (v:=ptr (w2.drew.alloc (.cells iP 36)).heap.size) (w':=(w2.drew.alloc (.cells iP 36)).alloc (.cells iP 36)) rfl (by go_simp;rfl) (λ_=>nW.out) ?_;generalize((w2.drew.alloc (.cells iP 36)).alloc (.cells iP 36))=w4 at nW BO Gr hb4 ⊢;generalize(w2.drew.alloc (.cells iP 36)).heap.size=g6 at Gr hne qu ⊢;generalize w2.drew.heap.size=g5 at BO hne jm ⊢;rotate_left;refine cN 6 (v:=ptr w2.drew.heap.size) (w':=w2.drew.alloc (.cells iP 36)) rfl rfl (by rfl) (by go_simp;rfl) ⟨λ_=>gz.out,?_⟩;simp only[zSA,zSB,zSC];refine fe 4 5 (v:=ptr (w2.drew.alloc (.cells iP 36)).heap.size) (w':=(w2.drew.alloc (.cells iP 36)).alloc (.cells iP 36)) rfl (by go_simp;rfl) (λ_=>nW.out) ?_;generalize((w2.drew.alloc (.cells iP 36)).alloc (.cells iP 36))=w4 at nW BO Gr hb4 ⊢;generalize(w2.drew.alloc (.cells iP 36)).heap.size=g5 at Gr hne qu ⊢;generalize w2.drew.heap.size=g6 at BO hne jm ⊢;have Xp:=BO;replace BO:=Gr;replace Gr:=Xp;clear Xp;have SB:=hne.symm;replace hne:=SB;clear SB;have mS:=jm;replace jm:=qu;replace qu:=mS;clear mS;all_goals
   have PW:w.heap.size≠g5:=by omega
   have X4:w.heap.size≠g6:=by omega
   have PV:w.heap.size+1≠g5:=by omega
   have X3:w.heap.size+1≠g6:=by omega
   refine jx 6 (w':=w4.setRow g5 (iN D T a.nd cd a.nt ct a.pM a.gi)) rfl (aq _ _ _ ⟨g5,0,none⟩ _ rfl rfl rfl (jU BO)) (λ_=>⟨nW.out.1.keep (ak _ _ _ _ PW),nW.out.2.keep (ak _ _ _ _ PV)⟩) ?_;have SA:=BO.setRow (iN D T a.nd cd a.nt ct a.pM a.gi);have hy6:=Gr.keep (ak w4 g5 g6 (iN D T a.nd cd a.nt ct a.pM a.gi) (λe=>hne e.symm));refine jx 7 (w':=(w4.setRow g5 (iN D T a.nd cd a.nt ct a.pM a.gi)).setRow g6 (iN D T a.nd cd a.nt ct a.pM a.gi)) rfl (aq _ _ _ ⟨g6,0,none⟩ _ rfl rfl rfl (jU hy6)) (λ_=>⟨(nW.out.1.keep (ak _ _ _ _ PW)).keep (ak _ _ _ _ X4),(nW.out.2.keep (ak _ _ _ _ PV)).keep (ak _ _ _ _ X3)⟩) ?_;refine aC (by kernel_rfl) ?_ _;rename_i J9 K9 MU aT;refine aT _ _ ?_;clear aT;go_meet
   case rel=>exact⟨g5,g6,rfl,rfl,SA.keep (ak _ _ _ _ hne),hy6.setRow _,below_setRow (below_setRow hb4 jm _) qu _⟩
 case rest=>
 rename_i K8 iO;refine iO _ _ ?_;clear iO;obtain⟨g5,g6,rfl,rfl,h5,h6,fN⟩:=hcut;have hAx:=oh.below fN oh.lt;have jq:=aM.below fN aM.lt;have DR:=zH (hb1.trans (fN.mono hb1.size));have x0:=hAx.cell 0;have x1:=hAx.cell 1;have x2:=hAx.cell 2;have x3:=hAx.cell 3;have x4:=hAx.cell 4;have x5:=hAx.cell 5;have x6:=hAx.cell 6;have x7:=hAx.cell 7;have y0:=jq.cell 0;have y1:=jq.cell 1;have y2:=jq.cell 2;have y3:=jq.cell 3;have y4:=jq.cell 4;have y5:=jq.cell 5;have y6:=jq.cell 6;have y7:=jq.cell 7;have s0:=h5.cell 0;have s1:=h5.cell 1;have s2:=h5.cell 2;have s3:=h5.cell 3;have t0:=h6.cell 0;have t1:=h6.cell 1;have t2:=h6.cell 2;have t3:=h6.cell 3;simp only[ai,iN,zGA,zGB,zGC,hnd,hnt] at x0 x1 x2 x3 x4 x5 x6 x7 y0 y1 y2 y3 y4 y5 y6 y7 s0 s1 s2 s3 t0 t1 t2 t3;have MQ:=(HT.out.below (hb1.trans (fN.mono hb1.size)));have HED:=zH (Du (cd:=cd) (DC:=cd) MQ.d MQ.d (by omega));have HEA:=zH fun(W:World) (hb:zB wc W)=>Ba (cd:=ct) (DC:=ct) (MQ.below hb).t (MQ.below hb).t (by omega);have H5:=zH h5;have H6:=zH h6;clear hAx jq h5 h6 fN oh aM hb1 MQ;go_wp2_with fail;refine HED.out.mono ?_;rintro e w3 ⟨rfl,hb3⟩;have rY:=zH hb3;have r1:=(H5.out.below hb3 H5.out.lt).cell 1;have r2:=(H6.out.below hb3 H6.out.lt).cell 1;simp only[iN,zGA,zGB,zGC,hnd,hnt] at r1 r2;clear hb3;go_wp2_with fail;refine(HEA.out w3 rY.out).mono ?_;rintro e w4 ⟨rfl,hb4⟩;have jh:=zH (DR.out.trans ((rY.out.trans (hb4.mono rY.out.size)).mono DR.out.size));clear hb4 rY;go_wp2_with fail;go_ret;exact⟨rfl,jh.out⟩
theorem OE {G:af} {w:World} {x:Sp.bI} (hT:bS G w x D T) (hF:x.Fits):
 Calls prog 114 #[cE (dy x) D T cd ct] w λe w'=>e=.returned (.bool true)/\zB w w':=by
 have HT:=zH hT;have ZR:=zH hF;have qf:=zH fun(W:World) (h:bS G W x D T)=>xz (cd:=cd) (ct:=ct) h ZR.out;have HHA:=zH fun(W:World)=>OH (w:=W) (x:=x) (D:=D) (T:=T) (cd:=cd) (ct:=ct);have HSA:=zH fun(W:World) (h:bS G W x D T)=>LV (cd:=cd) (ct:=ct) h ZR.out;clear hT hF;generalize dy x=r at*;have aM:=aj.new w 84 (ai r D T cd ct);have hb1:=(zR w).alloc (za _) (.cells (ai r D T cd ct) 84);have Sb:=zH (bY aM);replace qf:=zH (qf.out _ (HT.out.below hb1));have cA:=zH aM;have tU:=zH hb1;clear aM hb1;go_enter func114,ntmps114;go_wp2_with (first
  | ((with_reducible refine aY (v:=cE r D T cd ct) (w':=w.alloc (.cells (ai r D T cd ct) 84)) 6 rfl rfl ?_ ?_);exact ay _ _ ⟨w.heap.size,0,none⟩ rfl rfl Sb.out;simp only[zSA,zSB,zSC]))
 refine qf.out.mono ?_;rintro e w2 ⟨rfl,hb2⟩;have bB:=cA.out.below hb2 cA.out.lt;have cG:=tU.out.trans (hb2.mono tU.out.size);clear Sb qf cA tU hb2;have hS:=zH (show aj w2.drew w.heap.size 84 (ai r D T cd ct) from bB.drew);have HW2:=zH cG;have eo:=zH bB;clear bB cG
 ·have HH:=zH (HHA.out w2.drew);go_wp2_with fail;refine fQ (λW=>aj W w.heap.size 84 (ai r D T cd ct)) (λ_=>false) ?_
  repeat (refine bK hS.out ?_)
  refine kT 2 12 (v:=cE r D T cd ct) rfl hS.out (λW hSw=>ay _ _ ⟨w.heap.size,0,none⟩ rfl rfl (bY hSw)) ?_;refine kT 3 13 (v:=cE r D T cd ct) rfl hS.out (λW hSw=>ay _ _ ⟨w.heap.size,0,none⟩ rfl rfl (bY hSw)) ?_;refine aI 4 14 (w':=w2.drew) rfl rfl (by rfl) (by kernel_rfl) ?_ HH.out ?_
  ·go_simp
  rintro e w3 ⟨rfl,hb3⟩;have gz:=zH (show aj w3 w.heap.size 84 (ai r D T cd ct) from eo.out.drew.below hb3 eo.out.drew.lt);have hw3:=HW2.out.drew.trans (hb3.mono HW2.out.drew.size);have GL:=zH (HSA.out w3 (HT.out.below hw3));refine⟨_,rfl,λ_=>gz.out,?_⟩;simp only[zSA,zSB,zSC];refine aI 5 15 (w':=w3) rfl rfl (by rfl) (by kernel_rfl) ?_ GL.out ?_
  ·go_simp
  rintro e w4 ⟨rfl,hb4⟩;have nW:=zH (show aj w4 w.heap.size 84 (ai r D T cd ct) from gz.out.below hb4 gz.out.lt);have hw4:=hw3.trans (hb4.mono hw3.size);refine⟨_,rfl,λ_=>nW.out,?_⟩;simp only[zSA,zSB,zSC]
  repeat (refine bK nW.out ?_)
  refine aC (by kernel_rfl) ?_ _;rename_i K9 aT;refine aT _ _ ?_;clear aT;go_wp2_with fail;go_ret;exact⟨rfl,hw4⟩
theorem uP {G:af} {w:World} {x:Sp.bI} (hT:bS G w x D T) (hF:x.Fits):
 Calls prog 41 #[cE (dy x) D T cd ct] w λe w'=>e=.returned (.tuple #[str x.text,.int .i64 0])/\zB w w':=by
 have HT:=zH hT;have ZR:=zH hF;have qf:=zH fun(W:World) (h:bS G W x D T)=>xz (cd:=cd) (ct:=ct) h ZR.out;have lU:=zH fun(W:World) (h:bS G W x D T)=>OE (cd:=cd) (ct:=ct) h ZR.out;clear hT hF;generalize dy x=r at*;have aM:=aj.new w 84 (ai r D T cd ct);have hb1:=(zR w).alloc (za _) (.cells (ai r D T cd ct) 84);have Sb:=zH (bY aM);have HM:=zH (lU.out _ (HT.out.below hb1));have cA:=zH aM;have tU:=zH hb1;clear aM hb1;go_enter func41,ntmps41;go_wp2_with (first
  | ((with_reducible refine aY (v:=cE r D T cd ct) (w':=w.alloc (.cells (ai r D T cd ct) 84)) 6 rfl rfl ?_ ?_);exact ay _ _ ⟨w.heap.size,0,none⟩ rfl rfl Sb.out;simp only[zSA,zSB,zSC]))
 refine HM.out.mono ?_;rintro e w2 ⟨rfl,hb2⟩;have bB:=cA.out.below hb2 cA.out.lt;have cG:=tU.out.trans (hb2.mono tU.out.size);clear Sb HM cA tU hb2
 ·have vp:=zH (bY bB);replace qf:=zH (qf.out _ (HT.out.below cG));have HW:=zH cG;clear bB cG;go_wp2_with (first
   | ((with_reducible refine aY (v:=cE r D T cd ct) (w':=w2) 10 rfl rfl ?_ ?_);exact ay _ _ ⟨w.heap.size,0,none⟩ rfl rfl vp.out;simp only[zSA,zSB,zSC]))
  refine qf.out.mono ?_;rintro e w3 ⟨rfl,hb3⟩;have hb4:=HW.out.trans (hb3.mono HW.out.size);go_wp2_with fail
  go_ret2
  exact⟨rfl,hb4⟩
end Go.Proofs.YtfpjlkdklgokiaaGreat
