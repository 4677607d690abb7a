/- A part of the proof of CheckTakes. -/
import Derived.Deep.CutBlock
import Derived.Maps.RangeWalk
import Derived.Orders
import Derived.Stop.RegionWithIn
import Derived.WalkMore
import Derived.Test.YtfpjlkdklgokiaaGreatZD
namespace Go.Proofs.YtfpjlkdklgokiaaGreat
set_option maxRecDepth 100000
set_option maxHeartbeats 40000000
open Go.RowKit
open Go.Proofs.Tryz
variable {n g k gp gd c gl i id b s r cb mb fb cd h N m fuel j ct p B cap sz gr z gt x aL:Nat} {v c1 c2 c3 c0 c5 c4:Value} {w' W:World} {A D T:Option Addr} {a:Act} {ids q fl l rest:List Nat} {xs fs:List Value} {o oi:Oper} {listed:Array Bool} {P:Program} {e t:TypeId} {args cs' buf:Array Value} {tm:Bool}
section
open Go.Conc
section
variable {P:Program} {ops:Array Oper} {Q:Exit->Act->World->Prop}
def OpT (P:Program) (ops:Array Oper) (Q:Exit->Act->World->Prop) (i:Nat) (K:Act->World->Prop) (a:Act) (w:World):Prop:=
 ∀rest,(∀a w,K a w->wR P ops Q rest a w)->wR P ops Q (i::rest) a w
def TA (P:Program) (ops:Array Oper) (Q:Exit->Act->World->Prop):Nat->Array Bool->Act->World->Prop
 | 0,_,a,w=>Q .normal a w
 | fuel+1,listed,a,w=>
  (Region.ready .any ops listed=[]->Q .normal a w)/\∀i∈Region.ready .any ops listed,OpT P ops Q i (TA P ops Q fuel (listed.setIfInBounds i true)) a w
theorem RQ:∀(fuel t:Nat) (listed:Array Bool) (a:Act) (w:World),TA P ops Q fuel listed a w->wR P ops Q (Region.linearise.go .any ops fuel t listed []) a w:=by
 intro fuel
 induction fuel with
 | zero=>intro t listed a w h;simpa[Region.linearise.go] using nM h
 | succ fuel ih=>
  intro t listed a w h;obtain⟨h₀,h₁⟩:=h;simp only[Region.linearise.go];change wR P ops Q (match(Region.ready .any ops listed)[t%(Region.ready .any ops listed).length]? with
   | some i=>Region.linearise.go .any ops fuel (t/(Region.ready .any ops listed).length) (listed.setIfInBounds i true) [i]
   | none=>[].reverse) a w
  cases hi:(Region.ready .any ops listed)[t%(Region.ready .any ops listed).length]? with
  | none=>
   have hnil:Region.ready .any ops listed=[]:=by
    cases hr:Region.ready .any ops listed with
    | nil=>rfl
    | cons x xs=>
     rw[hr] at hi;have hlt:t%(x::xs).length<(x::xs).length:=Nat.mod_lt _ (by simp);simp at hi;simp at hlt;omega
   simpa using nM (h₀ hnil)
  | some i=>
   simp only[];rw[linearise_go_acc,List.reverse_singleton,List.singleton_append];exact h₁ i (zbl hi) _ (λa w h=>ih _ _ a w h)
theorem vq {w:World} (hm:P.follows .mixedOrders=true) (h:TA P ops Q ops.size (Array.replicate ops.size false) a {w with drawn:=w.drawn+1}):DZ P (Code.region id ops true) Q a w:=λb k cs hb=>by
 have h1:=RQ ops.size (w.tape w.drawn (.order b.fn id)) _ _ _ h;have e:Region.schedule (P.follows .mixedOrders) ops (w.tape w.drawn (.order b.fn id))=Region.linearise.go .any ops ops.size (w.tape w.drawn (.order b.fn id)) (Array.replicate ops.size false) []:=by
  simp only[Region.schedule,hm,Bool.true_or,if_true];rfl
 rw[<-e] at h1;obtain⟨e,a',w',q,r⟩:=h1 b k cs hb;exact⟨e,a',w',q,.of_steps (.one step_region_draw) r⟩
theorem RR (i:Nat) {w:World} (hr:Region.ready .any ops listed=[i]) (h:OpT P ops Q i (TA P ops Q fuel (listed.setIfInBounds i true)) a w):TA P ops Q (fuel+1) listed a w:=
 ⟨λh0=>absurd (hr▸h0) (by simp),λj hj=>by
  rw[hr] at hj;rw[zq.1 hj];exact h⟩
theorem Zj (i j:Nat) {w:World} (hr:Region.ready .any ops listed=[i,j]) (h:OpT P ops Q i (TA P ops Q fuel (listed.setIfInBounds i true)) a w) (h2:OpT P ops Q j (TA P ops Q fuel (listed.setIfInBounds j true)) a w):TA P ops Q (fuel+1) listed a w:=
 ⟨λh0=>absurd (hr▸h0) (by simp),λk hk=>by
  rw[hr] at hk;rcases zW.1 hk with e | hk
  ·rw[e];exact h
  ·rw[zq.1 hk];exact h2⟩
theorem uF (i:Nat) (t:Tmp) {w:World} {K:Act->World->Prop} (hi:ops[i]? =some o) (hd:o.dst=some t) (hw:Region.wanted o (yielded ops a.tmps)=true) (hy:(execOp a.eval o).run P w=.ok (.value v) w')
 (h:K {tmps:=a.tmps.setIfInBounds t v,defers:=a.defers} w'):OpT P ops Q i K a w:=λ_ hK=>cB i t hi hd hw hy (hK _ _ h)
theorem RY (i:Nat) {z:Value} {w:World} {K:Act->World->Prop} (hi:ops[i]? =some o) (hd:o.dst=none) (hw:Region.wanted o (yielded ops a.tmps)=true)
 (hy:(execOp a.eval o).run P w=.ok (.comm #[scase c v z] true .send) w') (hc:w'.heap[c]? =some (.chan cap buf false s r tm)) (hroom:buf.size<cap) (h:K a (w'.setChan c cap (buf.push v) false (s+1) r tm)):OpT P ops Q i K a w:=
 λ_ hK=>JA i hi hd hw hy hc hroom (hK _ _ h)
theorem UE {w:World} (hr:Region.ready .any ops listed=[]) (h:Q .normal a w):TA P ops Q fuel listed a w:=by
 cases fuel with
 | zero=>exact h
 | succ n=>exact⟨λ_=>h,λi hi=>by rw[hr] at hi;cases hi⟩
end
end
section
open Go.Maps
def mI (v:Value):Option (DataW Value×List MemPlace):=some (.held v,[])
section
variable {P:Program} {k e t:TypeId} {w w':World} {b m:Nat} {lk:Nat->Option Value}
def qg (lk:Nat->Option Value) (p:Nat) (v:Value):Nat->Option Value:=λq=>if q=p then some v else lk q
end
section
variable {D0:DataW Value} {left:Lit->Bool} {ss:List Nat}
end
abbrev jG (p:Nat):Lit:=.int .u64 (p:Int)
theorem CZ (h:p<18446744073709551616):(jG p).wf=true:=by
 have e1:IntKind.u64.min=0:=rfl;have e2:IntKind.u64.max=18446744073709551615:=rfl;simp[Lit.wf,e1,e2];omega
theorem sO (p:Nat):WideAt.IsKeyLit (jG p):=trivial
theorem Fe {q:Nat} (h:jG p=jG q):p=q:=by
 simp only[jG,Lit.int.injEq,true_and] at h;omega
def LIs (D:DataW Value) (lk:Nat->Option Value):Prop:=∀p,(∀v,lk p=some v->has D (jG p)=true/\∀z,D.atKey (jG p) z=.held v)/\(lk p=none->has D (jG p)=false)
def nN (P:Program) (k:TypeId) (w:World) (b n:Nat) (lk:Nat->Option Value):Prop:=
 ∃D:DataW Value,w.ownsMap P k mI b n D/\size D=n/\LIs D lk
section
variable {P:Program} {k e t:TypeId} {w w':World} {b n:Nat} {lk:Nat->Option Value}
theorem Hz {R:Value->Option (DataW Value×List MemPlace)} {D:DataW Value} (h:w.ownsMap P k R b n D):w.ownsMap P k R b (size D) D:=by
 obtain⟨es,clock,hb,F,_,rfl⟩:=h;refine⟨es,clock,hb,F,?_,rfl⟩;simp[Maps.size,length_sorted]
theorem nN.lt (h:nN P k w b n lk):b<w.heap.size:=by obtain⟨D,h1,_⟩:=h;exact World.ownsMap.lt h1
theorem nN.keep (h:nN P k w b n lk) (hk:w'.heap[b]? =w.heap[b]?):nN P k w' b n lk:=by
 obtain⟨D,⟨es,clock,h1,rest⟩,h2⟩:=h;exact⟨D,⟨es,clock,hk.trans h1,rest⟩,h2⟩
theorem nN.made (w:World):nN P k (w.alloc (.map #[] 0)) w.heap.size 0 (λ_=>none):=
 ⟨.map [],World.ownsMap_made w P k _,rfl,λp=>⟨λi h=>by simp at h,λ_=>rfl⟩⟩
theorem nN.look (h:nN P k w b n lk) (hk:P.underlying k=some (.int .u64)) (ht:P.underlying t=some (.map k e)) {z:Value} (hz:(zeroValue e).run P w=.ok z w) (hp:p<18446744073709551616):
 (Instr.lookup t (.map (some b)) (.int .u64 (p:Int)) false).run P w=.ok ((lk p).getD z) w:=by
 obtain⟨D,h1,_,h2⟩:=h;obtain⟨v',ps,hrun,hv⟩:=World.ownsMap.lookup h1 (int_keyed hk) ht hz (zd:=.held z) (zp:=[]) rfl (keyOf_int_mk hk (CZ hp))
 cases hl:lk p with
 | none=>
  rw[atKey_of_not_has ((h2 p).2 hl)] at hv;injection hv with hv;injection hv with hv _;injection hv with hv;rw[hrun,hv];rfl
 | some v=>
  rw[((h2 p).1 v hl).2] at hv;injection hv with hv;injection hv with hv _;injection hv with hv;rw[hrun,hv];rfl
theorem nN.look_ok (h:nN P k w b n lk) (hk:P.underlying k=some (.int .u64)) (ht:P.underlying t=some (.map k e)) {z:Value} (hz:(zeroValue e).run P w=.ok z w) (hp:p<18446744073709551616):
 (Instr.lookup t (.map (some b)) (.int .u64 (p:Int)) true).run P w=.ok (.tuple #[(lk p).getD z,.bool (lk p).isSome]) w:=by
 obtain⟨D,h1,_,h2⟩:=h;obtain⟨v',ps,hrun,hv⟩:=World.ownsMap.look_ok h1 (int_keyed hk) ht hz (zd:=.held z) (zp:=[]) rfl (keyOf_int_mk hk (CZ hp))
 cases hl:lk p with
 | none=>
  rw[(h2 p).2 hl] at hrun;rw[atKey_of_not_has ((h2 p).2 hl)] at hv;injection hv with hv;injection hv with hv _;injection hv with hv;rw[hrun,hv];rfl
 | some v=>
  rw[((h2 p).1 v hl).1] at hrun;rw[((h2 p).1 v hl).2] at hv;injection hv with hv;injection hv with hv _;injection hv with hv;rw[hrun,hv];rfl
theorem nN.len (h:nN P k w b n lk) (ht:P.underlying t=some (.map k e)) (ty:TypeId):(Builtin.len_ #[t] ty #[.map (some b)]).run P w=.ok (.int .i64 (n:Int)) w:=by
 obtain⟨D,h1,h2,_⟩:=h;rw[World.ownsMap.len h1 ht ty,h2]
theorem nN.put (h:nN P k w b n lk) (hk:P.underlying k=some (.int .u64)) (ht:P.underlying t=some (.map k e)) (hm:n<1000000000) (hp:p<18446744073709551616) (v:Value):
 ∃w',(Instr.mapUpdate t (.map (some b)) (.int .u64 (p:Int)) v).run P w=.ok () w'/\nN P k w' b (if(lk p).isSome then n else n+1) (qg lk p v)/\w.grownBy w' (some b):=by
 obtain⟨D,h1,h2,h3⟩:=h;obtain⟨w',r1,r2,r3⟩:=World.ownsMap.update h1 (int_keyed hk) ht (by unfold maxLen;omega) (keyOf_int_mk hk (CZ hp)) (val:=v) (d:=.held v) (ps:=[]) rfl;have hT:=World.ownsMap.tidy h1 (int_keyed hk);have hsz:size (D.put (jG p) (.held v))=if(lk p).isSome then n else n+1:=by
  rw[size_put hT]
  cases hl:lk p with
  | none=>rw[(h3 p).2 hl,h2];rfl
  | some u=>rw[((h3 p).1 u hl).1,h2];rfl
 have r2':=Hz r2;rw[hsz] at r2';refine⟨w',r1,⟨_,r2',hsz,λq=>?_⟩,r3⟩;by_cases hq:q=p
 ·subst hq;simp only[qg,zK];refine⟨λj hj=>?_,λhc=>by cases hc⟩;injection hj with hj;subst hj;exact⟨has_put_same hT.isMap (sO q) _,λz=>atKey_put_same hT.isMap (sO q) _ z⟩
 ·have hne:jG q≠jG p:=λe=>hq (Fe e);simp only[qg,zD hq];refine⟨λj hj=>?_,λhc=>?_⟩
  ·rw[has_put_other hne];exact⟨((h3 q).1 j hj).1,λz=>by rw[atKey_put_other hne];exact((h3 q).1 j hj).2 z⟩
  ·rw[has_put_other hne];exact(h3 q).2 hc
end
end
section
open Go.Shelf
def _root_.Go.Proofs.Tryz.sM:Go.Shelf.Ren:=⟨fun | 6=>193 | n=>n,fun | 22=>105 | 23=>24 | 25=>222 | 3=>3 | 0=>0 | 4=>4 | n=>n,fun | n=>n⟩
theorem _root_.Go.Proofs.Tryz.AB:Go.Proofs.SlLaysH.n6 prog Tryz.sM:={
 mixed:=by kernel_rfl
 f6:=⟨f193.name,by decide,func193.trans (congrArg some (by kernel_rfl))⟩
 t0:=underlying0
 a0:=Tryz.isAgg0
 z0:=sizeOf0
 v0:=zeroValue0
 t3:=underlying3
 a3:=Tryz.isAgg3
 z3:=sizeOf3
 v3:=zeroValue3
 t4:=underlying4
 a4:=Tryz.isAgg4
 z4:=sizeOf4
 v4:=zeroValue4
 t22:=underlying105
 a22:=Tryz.isAgg105
 z22:=sizeOf105
 v22:=zeroValue105
 a23:=Tryz.isAgg24
 z23:=sizeOf24
 t25:=underlying222
 a25:=Tryz.isAgg222
 z25:=sizeOf222
 v25:=zeroValue222}
open Go.RowKit Go.Lib in
theorem _root_.Go.Proofs.Tryz.jW {α:Type} [Inhabited α] (a:Option Addr) (c:Nat) (fv:Value) (w:World):
 Calls prog 193 #[.slice a 0 c,fv] w λe w'=>e=.returned (.int .i64 (-1))/\w'=w:=AnyE.slices_IndexFunc_empty Tryz.AB a c fv w
def _root_.Go.Proofs.Tryz.rH:Go.Shelf.Ren:=⟨fun | 10=>126 | 6=>193 | n=>n,fun | 22=>105 | 23=>24 | 25=>222 | 3=>3 | 4=>4 | 0=>0 | n=>n,fun | n=>n⟩
theorem _root_.Go.Proofs.Tryz.xX:Go.Proofs.SlLaysH.n10 prog Tryz.rH:={
 mixed:=by kernel_rfl
 f6:=⟨f193.name,by decide,func193.trans (congrArg some (by kernel_rfl))⟩
 f10:=⟨f126.name,by decide,func126.trans (congrArg some (by kernel_rfl))⟩
 t0:=underlying0
 a0:=Tryz.isAgg0
 z0:=sizeOf0
 v0:=zeroValue0
 t3:=underlying3
 a3:=Tryz.isAgg3
 z3:=sizeOf3
 v3:=zeroValue3
 t4:=underlying4
 a4:=Tryz.isAgg4
 z4:=sizeOf4
 v4:=zeroValue4
 t22:=underlying105
 a22:=Tryz.isAgg105
 z22:=sizeOf105
 v22:=zeroValue105
 a23:=Tryz.isAgg24
 z23:=sizeOf24
 t25:=underlying222
 a25:=Tryz.isAgg222
 z25:=sizeOf222
 v25:=zeroValue222}
open Go.RowKit Go.Lib Go.Sort in
theorem _root_.Go.Proofs.Tryz.nc {α:Type} [Inhabited α] (enc:α->Value) (hO:OneCell enc) (p:α->Bool) (g:Nat) (lb:Array Value) (eg:∀args w,(callFunc g args).run prog w=.ok (.enter g args) w) (zr:α) (v23:∀w,(zeroValue 24).run prog w=.ok (enc zr) w) (blk off cap:Nat) (d:Array α) (w:World) (hp:PredAt prog g lb enc p w) (hpo:PredOver prog g lb enc p blk off d.size w) (hH:Holds enc w blk off d) (hsz:d.size<=9223372036854775807) (hcap:d.size<=cap):
 Calls prog 126 #[.slice (some ⟨blk,off,none⟩) d.size cap,.func (.func g) #[] lb] w λe w'=>e=.returned (.slice (some ⟨blk,off,none⟩) (d.toList.filter λx=> !p x).length cap)/\∃q,w'=putRow enc (Sort.ahead w q) blk off ((d.toList.filter λx=> !p x)++List.replicate (d.size-(d.toList.filter λx=> !p x).length) zr).toArray:=AnyE.slices_DeleteFunc Tryz.xX enc hO p g lb eg zr v23 blk off cap d w hp hpo hH hsz hcap
end
section
open Go.Lib Go.Shelf Go.Sort
abbrev bU (i:Nat):Value:=.int .u64 (i:Int)
theorem SV:OneCell bU:=λ_=>rfl
theorem Tryz.z64 (w:World):(zeroValue 24).run prog w=.ok (bU 0) w:=by kernel_rfl
theorem Tr (x p:Nat):decide ((x:Int)<(p:Int))=decide (x<p):=by
 rw[Bool.eq_iff_iff,zA,zA];omega
theorem Mr (x p B:Nat) (W:World) (hc:W.cell? ⟨B,0,none⟩=some (bU p)):
 Calls prog 127 #[bU x,ptr B] W λe w'=>e=.returned (.bool (decide (x<p)))/\w'=W:=by
 have HB:=zH (Tr x p);go_enter func127,ntmps127;go_wp2_with fail;go_ret
 first | exact⟨rfl,rfl⟩ | exact⟨by rw[<-HB.out];rfl,rfl⟩
def Lc (f:Nat) (p B:Nat):Prop:=(∀x W,W.cell? ⟨B,0,none⟩=some (bU p)->Calls prog f #[bU x,ptr B] W λe w'=>e=.returned (.bool (decide (x<p)))/\w'=W)/\
 ∀args w,(callFunc f args).run prog w=.ok (.enter f args) w
theorem Nf (p B:Nat):Lc 127 p B:=⟨λx W h=>Mr x p B W h,enters_of func127 (by kernel_rfl) rfl⟩
theorem yM (a:Option Addr) (c:Nat) (fv:Value) (w:World):
 Calls prog 126 #[.slice a 0 c,fv] w λe w'=>e=.returned (.slice a 0 c)/\w'=w:=by
 have HI:=zH (Tryz.jW (α:=Nat) a c fv w);go_enter func126,ntmps126;go_wp2_with fail;refine HI.out.mono ?_;rintro e w1 ⟨rfl,hw⟩;subst w1;go_wp2_with fail;go_ret;exact⟨rfl,rfl⟩
theorem qF (w:World) (q b:Nat) (D:Array Nat) (cur:Array Value) (e:TypeId) (h:w.heap[b]? =some (.cells cur e (0,0))):
 (putRow bU (Sort.ahead w q) b 0 D).heap[b]? =some (.cells (Go.Sort.putCells bU 0 D cur) e (0,0)):=by
 simp[putRow,mapBlock,Sort.ahead,Array.getElem?_modify,h,onCells]
theorem kF (w:World) (q b:Nat) (D:Array Nat):w.grownBy (putRow bU (Sort.ahead w q) b 0 D) (some b):=
 ⟨rfl,rfl,rfl,by simp[putRow,mapBlock,Sort.ahead],λk _ hk=>by
  have:¬b=k:=λe=>hk (by rw[e]);simp[putRow,mapBlock,Sort.ahead,Array.getElem?_modify,this]⟩
theorem Dw {w:World} {base f:Nat} (hf:Lc f p B) (h:w.ownsRow base 24 1 v ids.length (ids.map bU)) (hB:aj w B 24 #[bU p]) (hne:v.ownBlock≠some B):
 Calls prog 126 #[v,.func (.func f) #[] #[ptr B]] w λe w'=>∃v',e=.returned v'/\
  w'.ownsRow base 24 1 v' (ids.filter (λx=> !(decide (x<p)))).length ((ids.filter (λx=> !(decide (x<p)))).map bU)/\w.grownBy w' v.ownBlock/\(∀k,v'.ownBlock=some k->v.ownBlock=some k):=by
 rcases h.2 with⟨rfl,h0⟩ | ⟨b,cap,cur,rfl,AV,hh,h1,h2,h3,h4⟩
 ·have ja:ids=[]:=zy h0;subst ja;refine(yM none 0 _ w).mono ?_;rintro e w1 ⟨rfl,rfl⟩;exact⟨_,rfl,World.ownsRow_nil _ _ _ _,⟨rfl,rfl,rfl,za _,λ_ _ _=>rfl⟩,λk hk=>hk⟩
 ·have hnb:b≠B:=λe=>hne (by rw[e];rfl);have hlen:ids.toArray.size=ids.length:=by simp
  have hcm:cap<=9223372036854775807:=by unfold maxLen at h2;omega
  have hH:Holds bU w b 0 ids.toArray:=by
   intro j hj;have hj':j<ids.length:=by simpa using hj
   rw[zaj];refine⟨(h.cellAt j (by omega)).trans ?_,h.frozenAt j⟩;simp[hj']
  have hp:PredAt prog f #[ptr B] bU (λx=>decide (x<p)) w:=λW x hb=>by
   refine(hf.1 x W ((hb.cell (p:=⟨B,0,none⟩) hB.lt).trans (hB.cell 0))).mono ?_;rintro e w' ⟨rfl,rfl⟩;exact⟨rfl,0,rfl⟩
  have hpo:PredOver prog f #[ptr B] bU (λx=>decide (x<p)) b 0 ids.toArray.size w:=λn os dk x SD=>by
   refine(hf.1 x _ ?_).mono ?_
   ·have e1:=kF w n b dk;have e2:(sortWorld bU w b 0 n dk os).heap[B]? =w.heap[B]? :=by
     have hsz:B<(putRow bU (Sort.ahead w n) b 0 dk).heap.size:=zf hB.lt e1.size;exact(Sort.heap_grow_old (putRow bU (Sort.ahead w n) b 0 dk) os hsz).trans (e1.block B hB.lt (λe=>hnb (by injection e with e;exact e.symm)))
    exact(hB.keep e2).cell 0
   ·rintro e w' ⟨rfl,rfl⟩;exact⟨rfl,0,rfl⟩
  have Fw:=Tryz.nc bU SV (λx=>decide (x<p)) f #[ptr B] hf.2 0 Tryz.z64 b 0 cap ids.toArray w hp hpo hH (by rw[hlen];omega) (by rw[hlen];exact h1);rw[hlen] at Fw;refine Fw.mono ?_;rintro e w' ⟨rfl,q,rfl⟩;have hlf:(ids.filter (λx=> !(decide (x<p)))).length<=ids.length:=zau _ _;have hcsz:cur.size=cap:=by rw[h3,Nat.mul_one]
  refine⟨_,rfl,⟨by simp,.inr ⟨b,cap,_,rfl,AV,qF w q b _ cur _ hh,zl hlf h1,h2,?_,?_⟩⟩,kF w q b _,λk hk=>hk⟩
  ·simp[Go.Sort.putCells,h3]
  ·apply za9;intro k;rw[Nat.mul_one,zT]
   split
   ·rename_i hk;have hkc:k<cur.size:=by omega
    simp only[Go.Sort.putCells,zZ,Array.getElem?_mapIdx];rw[Array.getElem?_eq_getElem hkc];have hk2:k<((ids.filter (λx=> !(decide (x<p))))++List.replicate (ids.length-(ids.filter (λx=> !(decide (x<p)))).length) 0).length:=by
     rw[zo,zbc];omega
    simp only[zas,za0,zaj,true_and,Nat.sub_zero,zV];rw[zK hk2,zN,zk hk];simp only[zas]
    congr 2
    rw[zG _ k (by simpa using hk2)];simp[zbr hk]
   ·rename_i hk;rw[List.getElem?_eq_none (by simpa using hk)]
end
section
open Go.Conc Go.Maps
section
variable {P:Program} {Q:Exit->Act->World->Prop} {a:Act} {w:World}
theorem Lh {c:Code} (h:DZ P c (Exit.then (λa' w'=>DZ P c (Exit.then (λ_ _=>False) Q) a' w') Q) a w):DZ P (Code.loop c) Q a w:=by
 intro b k cs hb;obtain⟨e,a₁,w₁,hq,ew⟩:=h b (.inLoop c::k) cs hb
 cases e with
 | normal=>
  obtain⟨e₂,a₂,w₂,qL,j3⟩:=hq b (.inLoop c::k) cs hb;have h2:=Steps.trans (.head step_loop ew) (.one step_inLoop)
  cases e₂ with
  | normal=>exact qL.elim
  | exit id=>exact⟨_,a₂,w₂,qL,.of_steps h2 (.pass (x:=.inLoop c) rfl (λ_ _=>.inl (by simp)) j3)⟩
  | goto l=>exact⟨_,a₂,w₂,qL,.of_steps h2 (.pass (x:=.inLoop c) rfl (λ_ _=>.inl (by simp)) j3)⟩
  | ret=>exact⟨_,a₂,w₂,qL,.of_steps h2 (.pass (x:=.inLoop c) rfl (λ_ _=>.inl (by simp)) j3)⟩
  | panic ch=>exact⟨_,a₂,w₂,qL,.of_steps h2 (.pass (x:=.inLoop c) rfl (λ_ _=>.inl (by simp)) j3)⟩
  | outgrown=>exact⟨_,a₂,w₂,qL,.of_steps h2 (.pass (x:=.inLoop c) rfl (λ_ _=>.inl (by simp)) j3)⟩
 | exit id=>exact⟨_,a₁,w₁,hq,.of_steps (.one step_loop) (.pass (x:=.inLoop c) rfl (λ_ _=>.inl (by simp)) ew)⟩
 | goto l=>exact⟨_,a₁,w₁,hq,.of_steps (.one step_loop) (.pass (x:=.inLoop c) rfl (λ_ _=>.inl (by simp)) ew)⟩
 | ret=>exact⟨_,a₁,w₁,hq,.of_steps (.one step_loop) (.pass (x:=.inLoop c) rfl (λ_ _=>.inl (by simp)) ew)⟩
 | panic ch=>exact⟨_,a₁,w₁,hq,.of_steps (.one step_loop) (.pass (x:=.inLoop c) rfl (λ_ _=>.inl (by simp)) ew)⟩
 | outgrown=>exact⟨_,a₁,w₁,hq,.of_steps (.one step_loop) (.pass (x:=.inLoop c) rfl (λ_ _=>.inl (by simp)) ew)⟩
end
theorem Zi {P:Program} {ops:Array Oper} {Q:Exit->Act->World->Prop} {fuel fuel':Nat} {L L':Array Bool} {a a':Act} {w:World} (h2:TA P ops Q fuel' L' a' w') (h:TA P ops Q fuel' L' a' w'->TA P ops Q fuel L a w):TA P ops Q fuel L a w:=h h2
section
variable {P:Program} {ops:Array Oper} {Q:Exit->Act->World->Prop} {fuel i j:Nat} {t u:Tmp} {x y:Value} {o q:Oper} {l l1 l2:Array Bool} {m m1 m2:Array Value} {df:List Deferred} {w:World}
theorem TA_n (h:TA P ops Q fuel l1 ⟨m1,df⟩ w) (_:Ze ops l=some j:=by exact rfl) (_:j=i:=by first | (simp only[Nat.reduceAdd];exact rfl) | exact rfl)
 (hr:Region.ready .any ops l=[i]:=by kernel_rfl) (hi:ops[i]? =some o:=by exact rfl) (hd:o.dst=some t:=by exact rfl) (hw:Region.wanted o (yielded ops m)=true:=by rfl)
 (hy:(execOp (Act.eval ⟨m,df⟩) o).run P w=.ok (.value x) w:=by first | (go_simp;done) | (go_simp;rfl))
 (hl:l.setIfInBounds i true=l1:=by simp only[zSA,zSB,zSC];exact rfl)
 (ht:m.setIfInBounds t x=m1:=by simp only[zSA,zSB,zSC];exact rfl):TA P ops Q (fuel+1) l ⟨m,df⟩ w:=by
 subst hl ht;exact RR i hr (uF i t hi hd hw hy h)
theorem TA_m (h1:TA P ops Q fuel l1 ⟨m1,df⟩ w) (h2:TA P ops Q fuel l2 ⟨m2,df⟩ w) {i' j':Nat} (_:Ze ops l=some i':=by exact rfl) (_:i'=i:=by first | (simp only[Nat.reduceAdd];exact rfl) | exact rfl)
 (hi:ops[i]? =some o:=by exact rfl) (hd:o.dst=some t:=by exact rfl) (hw:Region.wanted o (yielded ops m)=true:=by rfl)
 (hl:l.setIfInBounds i true=l1:=by simp only[zSA,zSB,zSC];exact rfl)
 (_:candN i ops l=some j':=by exact rfl) (_:j'=j:=by first | (simp only[Nat.reduceAdd];exact rfl) | exact rfl)
 (hj:ops[j]? =some q:=by exact rfl) (he:q.dst=some u:=by exact rfl) (hv:Region.wanted q (yielded ops m)=true:=by rfl)
 (hr:Region.ready .any ops l=[i,j]:=by kernel_rfl)
 (hy:(execOp (Act.eval ⟨m,df⟩) o).run P w=.ok (.value x) w:=by first | (go_simp;done) | (go_simp;rfl))
 (hz:(execOp (Act.eval ⟨m,df⟩) q).run P w=.ok (.value y) w:=by first | (go_simp;done) | (go_simp;rfl))
 (hk:l.setIfInBounds j true=l2:=by simp only[zSA,zSB,zSC];exact rfl)
 (ht:m.setIfInBounds t x=m1:=by simp only[zSA,zSB,zSC];exact rfl)
 (hu:m.setIfInBounds u y=m2:=by simp only[zSA,zSB,zSC];exact rfl):TA P ops Q (fuel+1) l ⟨m,df⟩ w:=by
 subst hl ht hk hu;exact Zj i j hr (uF i t hi hd hw hy h1) (uF j u hj he hv hz h2)
end
structure j_ (mb cb:Nat) (w:World) (gt n:Nat) (lk:Nat->Option Value) (tx num:Nat):Prop where
 blk:aj w gt 201 #[.map (some mb),.chan (some cb),.int .u64 tx,.int .u64 num]
 map:nN prog 24 w mb n lk
 chan:∃s r,w.heap[cb]? =some (.chan 1 #[] false s r false)
 gc:gt≠cb
 gm:gt≠mb
 mc:mb≠cb
theorem j_.keep {mb cb gt n tx num:Nat} {w:World} {lk:Nat->Option Value} (h:j_ mb cb w gt n lk tx num) (hk:∀b,b=gt\/b=mb\/b=cb->w'.heap[b]? =w.heap[b]?):j_ mb cb w' gt n lk tx num:=by
 obtain⟨s,r,hc⟩:=h.chan;exact⟨(hk gt (.inl rfl)).trans h.blk,h.map.keep (hk mb (.inr (.inl rfl))),⟨s,r,(hk cb (.inr (.inr rfl))).trans hc⟩,h.gc,h.gm,h.mc⟩
theorem j_.lt {mb cb gt n tx num:Nat} {w:World} {lk:Nat->Option Value} (h:j_ mb cb w gt n lk tx num):∀b,b=gt\/b=mb\/b=cb->b<w.heap.size:=by
 obtain⟨s,r,hc⟩:=h.chan;rintro b (rfl | rfl | rfl)
 ·exact h.blk.lt
 ·exact h.map.lt
 ·exact(zm.1 hc).1
theorem r6 {w:World} {gt mb:Nat} (h:aj w gt 201 #[.map (some mb),c1,c2,c3]):Calls prog 112 #[ptr gt] w λe w'=>e=.returned (.bool true)/\w'=w:=by
 have c0:=h.cell 0;simp only[zGA,zGC] at c0;have hne:=λw=>run_neq_map_nil (P:=prog) w 198 _ _ (some mb) underlying198;go_enter func112,ntmps112;go_wp2_with fail;go_ret;exact⟨rfl,rfl⟩
theorem WK {mb cb gt n tx num:Nat} {w:World} {lk:Nat->Option Value} (h:j_ mb cb w gt n lk tx num) (ht:tx<4611686018427387905):
 Calls prog 113 #[ptr gt] w λe w'=>e=.returned (.int .u64 tx)/\j_ mb cb w' gt n lk (tx+1) num/\aa (λb=>b=gt\/b=cb) (λb=>b=gt\/b=cb) w w':=by
 refine iL func113 rfl ?_;simp only[ntmps113,zV,zP,zap,Nat.reduceAdd,Nat.reduceSub,zac,zab,zan,zae,zaa,zal];obtain⟨s,r,hc⟩:=h.chan;have c1:=h.blk.cell 1;have c2:=h.blk.cell 2;simp only[zGA,zGB,zGC] at c1 c2;have H:=zH h;clear h;refine bf ?_;intro K hK;go_wp2_with fail;refine h_ ?_;refine Lh ?_;refine h_ ?_;refine bf ?_;intro K hK;go_wp2_with fail;refine f_ ?_;refine gV ?_;change wR _ _ _ [0,1,2] _ _;refine mQ 0 8 (c:=cb) (cap:=1) (s:=s) (r:=r) (tm:=false) (z:=.int .u64 0) (w':=w) rfl rfl (by rfl) ?_ hc ?_
 ·go_simp;rfl
 simp only[zSA,zSB,zSC];refine cB 1 9 (v:=.int .i64 (-1)) (w':=w) rfl rfl (by rfl) (by go_simp) ?_;simp only[zSA,zSB,zSC];refine cB 2 10 (v:=.bool false) (w':=w) rfl rfl (by rfl) (by go_simp) ?_;simp only[zSA,zSB,zSC];refine nM ?_;simp only[Exit.then];refine h_ ?_;refine NZ (t:=false) rfl ?_;simp only[Bool.false_eq_true,if_false];refine vq rfl ?_;change TA _ _ _ 9 #[false,false,false,false,false,false,false,false,false] _ w.drew;refine Zi (fuel':=1) (L':=#[true,true,true,true,true,true,true,true,false]) (a':=⟨#[ptr gt,undef,.int .u64 0,undef,ptr gt,ptr gt,.pointer (some ⟨gt,1,none⟩),.chan (some cb),.tuple #[goInt (-1),.bool false,.int .u64 0],.int .i64 (-1),.bool false,ptr gt,ptr gt,.pointer (some ⟨gt,1,none⟩),.chan (some cb),ptr gt,ptr gt,.pointer (some ⟨gt,2,none⟩),.int .u64 tx,undef,undef,undef,undef,undef,undef,undef,undef,undef,undef,undef,undef,undef],[]⟩) (w':=w.drew) ?_ (λHEND=>?_);rotate_left
 repeat' (first | exact HEND | refine TA_m ?_ ?_ | refine TA_n ?_)
 refine RR 8 (by kernel_rfl) (RY 8 (c:=cb) (cap:=1) (s:=s) (r:=r) (buf:=#[]) (tm:=false) (v:=.int .u64 tx) (z:=.tuple #[]) (w':=w.drew) rfl rfl (by rfl) (by simp[execOp,scase,Act.eval]) hc (by simp) ?_);refine UE (by kernel_rfl) ?_;simp only[Exit.inBlock,Exit.then];have hne:=H.out.gc;have Fv:cb<w.heap.size:=(zm.1 hc).1;obtain⟨w2,hw2⟩:=zE (w.drew.setChan cb 1 (#[].push (.int .u64 tx)) false (s+1) r false);have Vs:∀b,b≠cb->w2.heap[b]? =w.heap[b]? :=λb hb=>by rw[hw2];exact ji w.drew cb b 1 _ _ _ _ _ hb
 have hc2:w2.heap[cb]? =some (.chan 1 #[.int .u64 tx] false (s+1) r false):=by rw[hw2];exact heap_setChan w.drew cb 1 _ _ _ _ _ Fv
 have hg2:w.grownBy w2 (some cb):=by rw[hw2];exact⟨rfl,rfl,rfl,(eM w.drew cb 1 _ _ _ _ _).size,(eM w.drew cb 1 _ _ _ _ _).block⟩
 rw[<-hw2];clear hw2;have c1':w2.cell? ⟨gt,1,none⟩=some (.chan (some cb)):=(World.cell?_of_block (a:=⟨gt,1,none⟩) (Vs gt hne)).trans c1;clear c1 c2;refine h_ ?_;refine bf ?_;intro K hK;go_wp2_with fail;refine f_ ?_;refine gV ?_;change wR _ _ _ [0,1,2] _ _;refine qY 0 8 (c:=cb) (cap:=1) (buf:=#[.int .u64 tx]) (s:=s+1) (r:=r) (closed:=false) (tm:=false) (z:=.int .u64 0) (w':=w2) rfl rfl (by rfl) ?_ hc2 (by simp) ?_
 ·go_simp;rfl
 simp only[zSA,zSB,zSC];obtain⟨w3,hw3⟩:=zE (w2.setChan cb 1 ((#[.int .u64 tx]:Array Value).extract 1 (#[.int .u64 tx]:Array Value).size) false (s+1) (r+1) false);have Vr:∀b,b≠cb->w3.heap[b]? =w.heap[b]? :=λb hb=>by rw[hw3];exact(ji w2 cb b 1 _ _ _ _ _ hb).trans (Vs b hb)
 have hc3:w3.heap[cb]? =some (.chan 1 #[] false (s+1) (r+1) false):=by rw[hw3];exact heap_setChan w2 cb 1 _ _ _ _ _ (zf Fv hg2.size)
 have hg3:w2.grownBy w3 (some cb):=by rw[hw3];exact eM w2 cb 1 _ _ _ _ _
 rw[<-hw3];clear hw3;refine cB 1 9 (v:=.int .i64 0) (w':=w3) rfl rfl (by rfl) (by go_simp) ?_;simp only[zSA,zSB,zSC];refine cB 2 10 (v:=.bool true) (w':=w3) rfl rfl (by rfl) (by go_simp) ?_;simp only[zSA,zSB,zSC];refine nM ?_;simp only[Exit.then];refine fF ?_;have cg:aj w3 gt 201 #[.map (some mb),.chan (some cb),.int .u64 tx,.int .u64 num]:=(Vr gt hne).trans H.out.blk;have d2:=cg.cell 2;simp only[zGA,zGB,zGC] at d2;have fz2:=cg.frozen 2;have wz:IntKind.u64.wrap ((tx:Int)+1)=((tx+1:Nat):Int):=by rw[IntKind.wrap_u64];omega
 have rY:=zH cg;have dx:=((aa.refl (λb=>b=gt\/b=cb) w).grown hg2 (λk e=>.inl (by injection e with e;exact .inr e.symm))).grown hg3 (λk e=>.inl (by injection e with e;exact .inr e.symm));have GK:=zH dx;clear cg hg2 hg3 dx hc hc2 c1';go_wp2_with fail;go_ret;have dn:=rY.out.a_ 2 (.int .u64 ((tx+1:Nat):Int));refine⟨rfl,⟨dn,H.out.map.keep ((Below.heap_setCell w3 _ _ mb (λe=>H.out.gm e.symm)).trans (Vr mb H.out.mc)),⟨s+1,r+1,(Below.heap_setCell w3 _ _ cb (λe=>hne e.symm)).trans hc3⟩,H.out.gc,H.out.gm,H.out.mc⟩,GK.out.setCell (.inl (.inl rfl)) _⟩
structure Sp.Tx where
 tx:Nat
 first:Nat
 last:Nat
 next:Nat
 page:Nat
 slot:Nat
 deriving DecidableEq
def Sp.Tx.cs (x:Sp.Tx):Array Value:=#[.int .u64 x.tx,.int .u64 x.first,.int .u64 x.last,.int .u64 x.next,.int .u32 x.page,.int .u16 x.slot]
abbrev Sp.Tx.val (x:Sp.Tx):Value:=.agg x.cs
abbrev txZ:Value:=.agg #[.int .u64 0,.int .u64 0,.int .u64 0,.int .u64 0,.int .u32 0,.int .u16 0]
theorem JU (w:World):(zeroValue 123).run prog w=.ok txZ w:=by kernel_rfl
theorem Ll:(prog.info? 24).map (λi=>(i.zero,i.size,i.bytes))=some (some (.int .u64 0),1,8):=by kernel_rfl
theorem CD (w:World):(Instr.makeChan 199 (.int .i64 1)).run prog w=.ok (.chan (some w.heap.size)) (w.alloc (.chan 1 #[] false 0 0 false)):=by
 obtain⟨i,hi,_,_,hb⟩:=info_parts Ll;have:=run_makeChan (P:=prog) (w:=w) underlying199 hi .i64 1 (by omega) (by rw[hb];omega);simpa using this
def NewTb (w:World) (e:Ending) (w':World):Prop:=
 ∃mb cb gt,e=.returned (.tuple #[ptr gt,.int .i64 0])/\j_ mb cb w' gt 0 (λ_=>none) 1 1/\zB w w'/\w.heap.size<=mb/\w.heap.size<=cb/\w.heap.size<=gt
theorem SZ (w:World):Calls prog 39 #[.int .u64 1,.int .u64 1] w (NewTb w):=by
 have z_:=@run_makeMap prog;have hmc:=CD;go_enter func39,ntmps39;go_wp2_with fail;have h1:=(zR w).alloc (za _) (.map #[] 0);have h2:=h1.alloc h1.size (.chan 1 #[] false 0 0 false);have h3:=h2.alloc h2.size (.cells #[.map (some w.heap.size),.chan (some (w.heap.size+1)),.int .u64 1,.int .u64 1] 201);have z1:(w.alloc (.map #[] 0)).heap.size=w.heap.size+1:=by simp
 have z2:((w.alloc (.map #[] 0)).alloc (.chan 1 #[] false 0 0 false)).heap.size=w.heap.size+2:=by simp
 have hB:=aj.new ((w.alloc (.map #[] 0)).alloc (.chan 1 #[] false 0 0 false)) 201 #[.map (some w.heap.size),.chan (some (w.heap.size+1)),.int .u64 1,.int .u64 1];rw[z2] at hB;have hM:=((nN.made (P:=prog) (k:=24) w).keep (w':=(w.alloc (.map #[] 0)).alloc (.chan 1 #[] false 0 0 false)) (Below.heap_alloc _ _ _ (by rw[z1];omega))).keep (w':=((w.alloc (.map #[] 0)).alloc (.chan 1 #[] false 0 0 false)).alloc (.cells #[.map (some w.heap.size),.chan (some (w.heap.size+1)),.int .u64 1,.int .u64 1] 201)) (Below.heap_alloc _ _ _ (by rw[z2];omega));have hC:(((w.alloc (.map #[] 0)).alloc (.chan 1 #[] false 0 0 false)).alloc (.cells #[.map (some w.heap.size),.chan (some (w.heap.size+1)),.int .u64 1,.int .u64 1] 201)).heap[w.heap.size+1]? =some (.chan 1 #[] false 0 0 false):=by
  rw[Below.heap_alloc _ _ _ (by rw[z2];omega)];have:=heap_alloc_new (w.alloc (.map #[] 0)) (.chan 1 #[] false 0 0 false)
  rwa [z1] at this
 go_ret2
 exact⟨w.heap.size,w.heap.size+1,w.heap.size+2,rfl,⟨hB,hM,⟨0,0,hC⟩,by omega,by omega,by omega⟩,h3,by omega,by omega,by omega⟩
section
variable {mb cb gt n tx num:Nat} {w:World} {lk:Nat->Option Value}
theorem El (h:j_ mb cb w gt n lk tx num):Calls prog 46 #[ptr gt] w λe w'=>e=.returned (.tuple #[.int .u64 tx,.int .u64 num])/\∃n,w'=w.drewN n:=by
 have HM:=zH (r6 h.blk);have c2:=h.blk.cell 2;have c3:=h.blk.cell 3;simp only[zGA,zGB,zGC] at c2 c3;clear h;go_enter func46,ntmps46;go_wp2_with fail;refine HM.out.mono ?_;rintro e w1 ⟨rfl,hw⟩;subst w1;go_wp2_with fail;go_quiet (fail);go_wp2_with fail
 go_ret2
 exact⟨rfl,_,rfl⟩
theorem WJ (h:j_ mb cb w gt n lk tx num) (hp:p<18446744073709551616) {x:Sp.Tx} (hv:lk p=some x.val):
 Calls prog 117 #[ptr gt,.int .u64 p] w λe w'=>e=.returned (.int .i64 0)/\zB w w':=by
 have HM:=zH (r6 h.blk);have c0:=h.blk.cell 0;simp only[zGA,zGC] at c0;have hl:=h.map.look_ok underlying24 underlying198 (JU w) hp;rw[hv] at hl;simp only[Option.getD_some,Option.isSome_some,Sp.Tx.val,Sp.Tx.cs] at hl;clear h;go_enter func117,ntmps117;go_wp2_with fail;refine HM.out.mono ?_;rintro e w1 ⟨rfl,hw⟩;subst w1;go_wp2_with fail;go_ret;exact⟨rfl,(zR w).alloc (za _) _⟩
theorem Lm (h:j_ mb cb w gt n lk tx num) (hn:n<32) (ht:tx<4611686018427387904) (hno:lk tx=none):
 Calls prog 40 #[ptr gt] w λe w'=>e=.returned (.tuple #[.int .u64 tx,.int .i64 0])/\j_ mb cb w' gt (n+1) (qg lk tx (.agg #[.int .u64 tx,.int .u64 0,.int .u64 0,.int .u64 0,.int .u32 0,.int .u16 0])) (tx+1) num/\aa (λb=>b=gt\/b=mb\/b=cb) (λb=>b=gt\/b=mb\/b=cb) w w':=by
 have HM:=zH (r6 h.blk);have HI:=zH (WK h (by omega));have c0:=h.blk.cell 0;have c2:=h.blk.cell 2;simp only[zGA,zGB,zGC] at c0 c2;have hlen:=λty=>h.map.len underlying198 ty;have q1:decide ((32:Int)<=(n:Int))=false:=by rw[ze];omega
 have q2:decide ((4611686018427387904:Int)<(tx:Int))=false:=by rw[ze];omega
 clear h;go_enter func40,ntmps40;go_wp2_with fail;refine HM.out.mono ?_;rintro e w1 ⟨rfl,hw⟩;subst w1;go_wp2_with fail;refine HI.out.mono ?_;rintro e w1 ⟨rfl,h1,gX⟩;obtain⟨w2,r1,r2,r3⟩:=h1.map.put underlying24 underlying198 (by omega) (show tx<18446744073709551616 by omega) (.agg #[.int .u64 tx,.int .u64 0,.int .u64 0,.int .u64 0,.int .u32 0,.int .u16 0]);rw[hno] at r2;have c0':=h1.blk.cell 0;simp only[zGA,zGC] at c0';obtain⟨s,r,hc⟩:=h1.chan;have hT:j_ mb cb w2 gt (n+1) (qg lk tx (.agg #[.int .u64 tx,.int .u64 0,.int .u64 0,.int .u64 0,.int .u32 0,.int .u16 0])) (tx+1) num:=
  ⟨h1.blk.grown r3 (λe=>h1.gm (by injection e)),r2,⟨s,r,(r3.block cb (zm.1 hc).1 (λe=>h1.mc (by injection e with e;exact e.symm))).trans hc⟩,h1.gc,h1.gm,h1.mc⟩
 have Kq:=(gX.fw (F:=λb=>b=gt\/b=mb\/b=cb) (λb hb=>hb.elim .inl (λe=>.inr (.inr e))) (λb hb=>.inl hb):aa _ _ w w1);have HT:=zH hT;have Nj:=zH Kq;clear HI HM c0 c2 hlen h1 gX hc hT Kq r2;go_wp2_with fail
 go_ret2
 exact⟨rfl,HT.out,Nj.out.grown r3 (λk e=>.inl (.inr (.inl (by injection e with e;exact e.symm))))⟩
theorem SY (h:j_ mb cb w gt n lk tx num) {x y:Sp.Tx} (hx:x.tx<18446744073709551616) (hv:lk x.tx=some y.val) (hn:n<1000000000):
 Calls prog 43 #[ptr gt,x.val] w λe w'=>e=.returned (.int .i64 0)/\j_ mb cb w' gt n (qg lk x.tx x.val) tx num/\aa (λb=>b=gt\/b=mb\/b=cb) (λb=>b=gt\/b=mb\/b=cb) w w':=by
 have hb1:=(zR w).alloc (za _) (.cells x.cs 123);have hB:=aj.new w 123 x.cs;have h1:=h.keep (w':=w.alloc (.cells x.cs 123)) (λb hb=>Below.heap_alloc _ _ _ (h.lt b hb));have HO:=zH (WJ h1 hx hv);have HH:=zH h1;have x0:(w.alloc (.cells x.cs 123)).cell? ⟨w.heap.size,0,none⟩=some (.int .u64 x.tx):=hB.cell 0;clear h;go_enter func43,ntmps43;go_wp2_with fail;refine HO.out.mono ?_;rintro e w2 ⟨rfl,hb2⟩;have h2:=HH.out.keep (λb hb=>hb2.block b (HH.out.lt b hb));have bB:=hB.below hb2 hB.lt;have x02:=bB.cell 0;have c0:=h2.blk.cell 0;simp only[zGA,zGC] at c0;obtain⟨w3,r1,r2,r3⟩:=(h2.map.keep (w':=w2.drew) rfl).put underlying24 underlying198 hn hx x.val;rw[hv] at r2;have HS:=zH (show zC w2.drew gt 0 (.map (some mb))/\zC w2.drew w.heap.size 0 (.int .u64 x.tx)/\aj w2.drew w.heap.size 123 x.cs from⟨c0,x02,bB⟩);obtain⟨s,r,hc⟩:=h2.chan;have hT:j_ mb cb w3 gt n (qg lk x.tx x.val) tx num:=
  ⟨h2.blk.drew.grown r3 (λe=>h2.gm (by injection e)),r2,⟨s,r,(r3.block cb (zm.1 hc).1 (λe=>h2.mc (by injection e with e;exact e.symm))).trans hc⟩,h2.gc,h2.gm,h2.mc⟩
 have HT:=zH hT;have Nj:=zH ((((aa.refl (λb=>b=gt\/b=mb\/b=cb) w).alloc (.cells x.cs 123)).next hb2).drew.grown r3 (λk e=>.inl (.inr (.inl (by injection e with e;exact e.symm)))));clear hT r2 r3 hc c0 x02 bB h2 hB x0 h1 HO HH hb1 hb2;go_wp2_with fail;refine fQ (λW=>zC W gt 0 (.map (some mb))/\zC W w.heap.size 0 (.int .u64 x.tx)/\aj W w.heap.size 123 x.cs) (λi=>i==7) ?_
 repeat (refine bK HS.out ?_)
 refine kT 6 18 (v:=x.val) rfl HS.out ?_ ?_
 ·intro W hSw;exact ay _ _ _ rfl rfl (run_loadVar_row W w.heap.size _ _ _ _ _ hSw.2.2 underlying123 rfl rfl)
 refine jx 7 (w':=w3) rfl ?_ (λh=>by simp at h) ?_
 ·go_simp
 refine aC (by kernel_rfl) ?_ _;rename_i K9 aT;refine aT _ _ ?_;clear aT;go_wp2_with fail;go_ret;exact⟨rfl,HT.out,Nj.out⟩
end
end
section
open Go.Maps Go.Sort
theorem yb {k:TypeId} (hk:P.underlying k=some (.int .u64)) {key:Value} {kl:Lit} (h:keyOf P k key=some kl):∃x:Nat,key=bU x/\kl=jG x/\x<18446744073709551616:=by
 cases key<;>simp[keyOf,hk,mapKey] at h
 rename_i q a;obtain⟨⟨rfl,hw⟩,rfl⟩:=h;have e1:IntKind.u64.min=0:=rfl;have e2:IntKind.u64.max=18446744073709551615:=rfl;simp[Lit.wf,e1,e2] at hw;obtain⟨x,rfl⟩:=Int.eq_ofNat_of_zero_le hw.1;exact⟨x,rfl,rfl,by omega⟩
theorem Oa {y:Nat} (h:bU x=bU y):x=y:=by
 simp only[bU,Value.int.injEq,true_and] at h;omega
def g_ (D0:DataW Value) (left:Lit->Bool) (ss:List Nat):Prop:=ss.Nodup/\∀x,x∈ss↔(has D0 (jG x)=true/\left (jG x)=false)
section
variable {D0:DataW Value} {left:Lit->Bool} {ss:List Nat}
theorem g_.start (D0:DataW Value):g_ D0 (has D0) []:=⟨List.nodup_nil,λx=>by cases has D0 (jG x)<;>simp⟩
theorem g_.step (h:g_ D0 left ss) {y:DataW Value} (hlk:left (jG x)=true) (hat:∀zd,D0.atKey (jG x) zd=y):g_ D0 (λz=>left z&& !z.sameKey (jG x)) (ss++[x]):=by
 have nB:has D0 (jG x)=true:=has_true_of_atKey hat;have hnew:x∉ss:=λhx=>by have:=((h.2 x).1 hx).2;rw[hlk] at this;cases this
 refine⟨za3.2 ⟨h.1,by simp,λa ha b hb=>by simp at hb;subst hb;exact λe=>hnew (e▸ha)⟩,λy=>?_⟩;by_cases hy:y=x
 ·subst hy;simp[nB,WideAt.sameKey_self (sO y)]
 ·have hs:(jG y).sameKey (jG x)=false:=by
   cases he:(jG y).sameKey (jG x) with
   | false=>rfl
   | true=>exact absurd (Fe ((WideAt.sameKey_iff (sO x)).1 he)) hy
  simp[h.2 y,hy,hs]
end
theorem Mp (F:Fence) (n:Nat) (h10:F.fn 189) (hro:F.round=none) (hn:1<=n) (l Bm b nn:Nat) (D0:DataW Value) (J:List Nat->World->Prop)
 (hY:∀pre x W,J pre W->pre.length<Maps.size D0->YieldAt F (n-1) prog l #[bU x] W λe W'=>e=.returned (.bool true)/\J (pre++[x]) W'/\KeepsWalks W W')
 (W:World) (hJ:AbidesFrom W.heap.size J) (hm:W.cell? ⟨Bm,0,none⟩=some (.map (some b))) (hown:W.ownsMap prog 24 mI b nn D0) (h0:J [] W):
 CallsIn F n prog 189 #[.func (.yield l) #[] #[],.pointer (some ⟨Bm,0,none⟩)] W λe W'=>(∃v,e=.returned v)/\∃ss:List Nat,(ss.Nodup/\∀x,x∈ss↔has D0 (jG x)=true)/\J ss W':=by
 refine callsIn_of_wp func189 rfl h10 ?_ hro;simp only[ntmps189,zV,zP,zap,Nat.reduceAdd,Nat.reduceSub,zac,zab,zan,zae,zaa,zal]
 gi_wp2_with (first
  | (gi_at_range;refine wpListIn_range_own _ rfl _ 198 rfl 24 123 (int_keyed underlying24) underlying198 _ b nn _ rfl hown ?_;intro w0 hrg0 hg0 hs0)
  | gi_in)
 go_frame
 gi_loopw [3] (λ_ wr=>∃(left:Lit->Bool) (cnt:Nat) (ss:List Nat),wr.ranges prog 24 mI b W.heap.size nn D0 left cnt/\ss.length+cnt<=Maps.size D0/\g_ D0 left ss/\J ss wr)
  (λ_ wr=>wr.rangeLeft b W.heap.size)
 case atStart=>
  exact⟨_,_,[],hrg0,by simp,g_.start D0,hJ [] W w0 none h0 hg0 (λr e=>by cases e)⟩
 case round=>
  obtain⟨left,cnt,ss,hrg,hcs,hC,hJs⟩:=hrel
  gi_wp2_with (first
   | (gi_at_next;refine wpListIn_next_ranges _ rfl _ rfl 24 (int_keyed underlying24) mI bU (λc:Value=>c) (λkey kl hk=>by obtain⟨x,hx,_⟩:=yb underlying24 hk;exact⟨x,hx⟩) (λv y _=>⟨v,rfl⟩) b W.heap.size nn _ _ _ rfl hrg ?_ ?_)
   | gi_in)
  ·intro hc0 hl0
   gi_wp2
   go_end0
   exact⟨⟨_,rfl⟩,ss,⟨hC.1,λx=>by rw[hC.2 x,hl0];simp⟩,hJs⟩
  ·intro x c kl yd yp w2 cnt2 hkey hlk hv hat hrg2 hlt hg2 hs2 hen;obtain⟨x',ex,rfl,_⟩:=yb underlying24 hkey;obtain rfl:x=x':=Oa ex;have hJ2:J ss w2:=hJ ss wr w2 (some W.heap.size) hJs hg2 (λr e=>by cases e;exact⟨za _,hrg.iter_walk⟩);obtain⟨fn,tmps,assign,body,hy,hR⟩:=hY ss x w2 hJ2 (by omega);clear hs2
   gi_wp2
   refine hR.mono ?_;rintro e W3 ⟨rfl,hJ3,hk3⟩
   gi_wp2
   have hrg3:=hrg2.of_walks hk3;go_roundw
   case rel=>exact⟨_,cnt2,ss++[x],hrg3,by simp;omega,hC.step hlk hat,hJ3⟩
   case measure=>rw[hrg3.left_eq,hrg.left_eq];exact hlt
end
section
open Go.Sort
theorem Bb (x:Nat) (w:World):Calls prog 207 #[bU x] w λe w'=>e=.returned (.bool false)/\w'=w:=by
 go_enter func207,ntmps207;go_wp2_with fail;go_ret;exact⟨by simp,rfl⟩
theorem tA (x y:Nat) (w:World):Calls prog 151 #[bU x,bU y] w λe w'=>e=.returned (.bool (decide (x<y)))/\w'=w:=by
 go_enter func151,ntmps151;go_wp2_with (go_at_call 207;refine(Bb _ _).mono ?_;rintro e w' ⟨rfl,rfl⟩);go_ret;exact⟨by simp,rfl⟩
theorem lR (b o j:Nat):(⟨b,o,none⟩:Addr).add j=⟨b,o+j,none⟩:=by unfold Addr.add;split<;>simp_all
section
variable {F:af} {w:World} {gl gd:Nat} {l:Sp.Lg}
theorem rB {w:World} {base e:Nat} (h:w.ownsRow base e 1 v n xs):∃A c,v=.slice A n c/\Reads (λ_=>True) w 1 A n xs:=by
 rcases h.2 with⟨rfl,rfl⟩ | ⟨g,cap,cur,rfl,_,hh,_⟩
 ·have:xs=[]:=zy (by simpa using h.1);subst this;exact⟨none,0,rfl,Reads.none_⟩
 ·exact⟨some ⟨g,0,none⟩,cap,rfl,(eX h).mono (λ_ _=>trivial)⟩
end
theorem Cg (x y:Nat) (w:World):Calls prog 151 #[bU x,bU y] w λe w'=>e=.returned (.bool (kY x y))/\w'=w:=tA x y w
theorem AD (blk off cap a b:Nat) (d:Array Nat) (w:World) (hH:Holds bU w blk off d) (hab:a<=b) (hb:b<=d.size) (hsz:d.size<4611686018427387904):
 Calls prog 281 #[.slice (some ⟨blk,off,none⟩) d.size cap,.int .i64 a,.int .i64 b] w λe w'=>
  e=.returned (.tuple #[])/\∃n,w'=putRow bU (Sort.ahead w n) blk off (Sort.insertionSort kY d a b):=by
 go_enter func281,ntmps281;go_wp2_with fail;go_loopw [6] (λvi wr=>∃(i n:Nat) (dk:Array Nat),vi=.int .i64 i/\a<i/\i<=b+1/\dk.size=d.size/\wr=putRow bU (Sort.ahead w n) blk off dk/\
  insOuter kY a b i dk=insOuter kY a b (a+1) d) (λvi _=>b+1-(intOf vi).toNat)
 case atStart=>exact⟨a+1,0,d,by go_num,by omega,by omega,rfl,(putRow_self _ _ _ _ _ hH).symm,rfl⟩
 case round=>
  obtain⟨i,n,dk,rfl,hai,hib,hsk,hwr,hO⟩:=hrel;have HO:Hid (insOuter kY a b i dk=insOuter kY a b (a+1) d):=hO;clear hO;go_wp2_with fail
  ·go_loopw [7] (λvj wr2=>∃(j m:Nat) (dj:Array Nat),vj=.int .i64 j/\a<=j/\j<=i/\dj.size=d.size/\wr2=putRow bU (Sort.ahead w m) blk off dj/\
    insInner kY a j dj=insInner kY a i dk) (λvj _=>(intOf vj).toNat)
   case atStart=>exact⟨i,n,dk,rfl,by omega,za _,hsk,rfl,rfl⟩
   case round=>
    obtain⟨j,m,dj,rfl,haj,hji,hsj,hw2,hI⟩:=hrel;have hlt:i<b:=by assumption
    obtain⟨G,hG⟩:∃G:Nat->Nat,∀t,G t=dj[t]! :=⟨λt=>dj[t]!,λ_=>rfl⟩;have hcw:∀t,t<d.size->wr.cell? ⟨blk,off+t,none⟩=some (bU (G t)):=λt ht=>by
     rw[hw2,hG];exact cell?_putRow _ _ _ _ d dj (holds_ahead _ _ _ _ _ _ hH) hsj t (by omega)
    have hfw:∀t,t<d.size->wr.frozen? ⟨blk,off+t,none⟩=false:=λt ht=>by
     rw[hw2,frozen?_putRow];exact((holds_ahead _ _ m _ _ _ hH) t ht).2
    have HW:Hid (wr=putRow bU (Sort.ahead w m) blk off dj):=hw2;have HG:Hid (∀t,G t=dj[t]!):=hG;have HI:Hid (insInner kY a j dj=insInner kY a i dk):=hI;clear hw2 hG hI hH;have out:(j<=a\/kY dj[j]! dj[j-1]! =false)->∀q,∃i' n' Ca,Value.int .i64 ((i:Int)+1)=.int .i64 (i':Nat)/\a<i'/\i'<=b+1/\Ca.size=d.size/\
     wr.drewN q=putRow bU (Sort.ahead w n') blk off Ca/\insOuter kY a b i' Ca=insOuter kY a b (a+1) d:=λhs q=>
     ⟨i+1,m+q,dj,by go_num,by omega,by omega,hsj,by rw[HW.out];exact putRow_drewN _ _ _ _ _ _ _,
      by rw[<-HO.out,insOuter_go _ _ _ _ _ hlt,<-HI.out,insInner_stop _ _ _ _ hs]⟩
    have OUT:Hid _:=out;clear out;go_wp2_with fail;by_cases hja:a<j
    ·go_quiet (first | (go_at_call 151;refine Calls.quiet_of_same (Cg _ _ _)));go_wp2_with fail
     ·have hl:kY (G j) (G (j-1))=true:=by assumption
      go_region
      all_goals go_wp2_with fail
      go_roundw
      case rel=>
       refine⟨j-1,m+(nq+1),swp dj j (j-1),by congr 1;omega,by omega,by omega,by rw[size_swp];exact hsj,?_,?_⟩
       ·rw[HW.out,HG.out,HG.out];exact swap_worldA _ w m (nq+1) blk off dj j (j-1) (by omega) (by omega)
       ·rw[<-HI.out,insInner_go kY a j dj hja (by rw[<-HG.out,<-HG.out];exact hl)]
      case measure=>simp[intOf];omega
     ·have hl:kY (G j) (G (j-1))=false:=by assumption
      go_roundw
      case rel=>exact OUT.out (Or.inr (by rw[<-HG.out,<-HG.out];exact hl)) nq
      case measure=>simp[intOf];omega
    ·go_quiet (first | (go_at_call 151;refine Calls.quiet_of_same (Cg _ _ _)));go_wp2_with fail;go_roundw
     case rel=>exact OUT.out (Or.inl (by omega)) nq
     case measure=>simp[intOf];omega
  ·have hge:¬i<b:=by assumption
   go_end0
   exact⟨rfl,n,by unfold Sort.insertionSort;rw[<-HO.out,insOuter_stop _ _ _ _ _ hge]⟩
theorem Tm (blk off cap:Nat) (d:Array Nat) (w:World) (hH:Holds bU w blk off d) (h12:d.size<=12) (lim:Int):
 Calls prog 239 #[.slice (some ⟨blk,off,none⟩) d.size cap,.int .i64 0,.int .i64 d.size,.int .i64 lim] w λe w'=>
  e=.returned (.tuple #[])/\∃n,w'=putRow bU (Sort.ahead w n) blk off (Sort.insertionSort kY d 0 d.size):=by
 have HI:=zH (AD blk off cap 0 d.size d w hH (za0 _) (za _) (by omega));have d1:decide ((d.size:Int)<=12)=true:=by rw[zx];omega
 clear hH;go_enter func239,ntmps239;go_wp2_with fail;refine wp_loop_rounds 1 ?_;rw[rounds_succ];go_wp2_with fail;refine HI.out.mono ?_;rintro e w1 ⟨rfl,n,hw⟩;go_wp2_with fail;refine bodyPost_ret (results_none rfl _ _ _) rfl ?_;exact⟨rfl,n,rfl⟩
theorem Ol (blk off cap:Nat) (d:Array Nat) (w:World) (hH:Holds bU w blk off d) (h12:d.size<=12):
 Calls prog 188 #[.slice (some ⟨blk,off,none⟩) d.size cap] w λe w'=>
  e=.returned (.tuple #[])/\∃n,w'=putRow bU (Sort.ahead w n) blk off (Sort.insertionSort kY d 0 d.size):=by
 have HP:=zH (Tm blk off cap d w hH h12);have HL:=zH fun(x:Int) (W:World) (h0:0<=x) (h1:x<=18446744073709551615)=>Tryz.bits_Len x W h0 h1;clear hH;go_enter func188,ntmps188;go_wp2_with fail;refine(HL.out _ _ (by omega) (by omega)).mono ?_;rintro e w1 ⟨rfl,hw⟩;subst w1;go_wp2_with fail;refine(HP.out _).mono ?_;rintro e w1 ⟨rfl,n,hw⟩;go_wp2_with fail
 go_end0
 exact⟨rfl,n,rfl⟩
theorem LB {w:World} {cs:Array Value} (hb:aj w g 24 cs) (hl:l.length<=12) (hc:∀j,j<l.length->cs[j]? =some (bU l[j]!)):
 Calls prog 188 #[.slice (some ⟨g,0,none⟩) l.length cap] w λe w'=>e=.returned (.tuple #[])/\
  ∃cs',aj w' g 24 cs'/\cs'.size=cs.size/\(∀j,j<l.length->cs'[j]? =some (bU (Sp.sorted l)[j]!))/\w.grownBy w' (some g):=by
 have hH:Holds bU w g 0 l.toArray:=by
  intro j hj;have hj':j<l.length:=by simpa using hj
  rw[zaj];refine⟨(hb.cell j).trans ?_,hb.frozen j⟩;rw[hc j hj'];simp[hj']
 have hs:=Ol g 0 cap l.toArray w hH (by simpa using hl);have hsz:l.toArray.size=l.length:=by simp
 rw[hsz] at hs;have hps:(Sp.sorted l).length=l.length:=(Sp.aX l).1.length_eq;refine hs.mono ?_;rintro e w' ⟨rfl,n,rfl⟩;refine⟨rfl,_,qF w n g _ cs _ hb,by simp[Go.Sort.putCells],λj hj=>?_,kF w n g _⟩;have hjc:j<cs.size:=by
  rcases za4 j cs.size with h | h
  ·exact h
  ·have:=hc j hj;rw[zah h] at this;cases this
 have hlen:(Sort.insertionSort kY l.toArray 0 l.length).size=l.length:=hps;simp only[Go.Sort.putCells,Array.getElem?_mapIdx];rw[Array.getElem?_eq_getElem hjc];simp only[zas,za0,zaj,true_and,Nat.sub_zero];rw[zK (by rw[hlen];exact hj)];unfold Sp.sorted;rw[zG _ j (by rw[hlen];exact hj),zG _ j (by simpa[hlen] using hj)];simp
end
section
open Go.Maps Go.Shelf Go.Sort
def uE:Code:=(Code.region 2 #[{dst:=some 5,op:=Op.assign (Operand.tmp 7),type:=24,pos:= "iter.go:51",after:=#[],guard:=none}] false)
def DJ:Code:=(Code.block 1 (Code.region 3 #[{dst:=some 8,op:=Op.load 105 (Operand.tmp 2),type:=105,pos:= "iter.go:52",after:=#[],guard:=none},{dst:=some 9,op:=Op.move (Operand.tmp 5),type:=24,pos:= "iter.go:52",after:=#[],guard:=none},{dst:=some 10,op:=Op.buildSlice 105 1 #[(0,Operand.tmp 9)],type:=105,pos:= "iter.go:52",after:=#[{on:=1,ground:=Ground.data}],guard:=none},{dst:=some 11,op:=Op.call {callee:=Callee.builtin Builtin.append,args:=#[Operand.tmp 8,Operand.tmp 10],argTypes:=#[105,105]},type:=105,pos:= "iter.go:52",after:=#[{on:=0,ground:=Ground.data},{on:=2,ground:=Ground.data}],guard:=none},{dst:=none,op:=Op.store 105 (Operand.tmp 2) (Operand.tmp 11),type:=0,pos:= "iter.go:52",after:=#[{on:=3,ground:=Ground.data},{on:=3,ground:=Ground.chain},{on:=0,ground:=Ground.phase},{on:=1,ground:=Ground.phase},{on:=2,ground:=Ground.phase},{on:=3,ground:=Ground.phase}],guard:=none}] false))
def kQ (fn:FuncId) (sv:Value) (Bs D:Nat) (st:LoopState) (pend:Option Code):Loop:=
 {state:=st,pending:=pend,fn,tmps:=#[.slice none 0 0,sv,.pointer (some ⟨Bs,0,none⟩),undef,.slice none 0 0,undef,sv,undef,undef,undef,undef,undef,undef],params:=#[7],assign:=uE,body:=DJ,defers:=D}
structure Gp (w0:World) (fn:FuncId) (sv:Value) (Bs l D:Nat) (ss:List Nat) (W:World):Prop where
 box:∃v,W.heap[Bs]? =some (.cells #[v] 105 (0,0))/\W.ownsRow w0.heap.size 24 1 v ss.length (ss.map bU)/\(v=.slice none 0 0↔ss=[])
 L:W.heap[l]? =some (.loop (kQ fn sv Bs D .ready none))
 K:W.heap[D]? =some (.deferred (some []))
 below:zB w0 W
theorem Jw (w0:World) (fn:FuncId) (sv:Value) (Bs l D B:Nat) (hB:w0.heap.size<=B):AbidesFrom B (Gp w0 fn sv Bs l D):=λs W W' row h hg hrow=>by
 have hrow':∀r,row=some r->∃o:Obj,W.heap[r]? =some o/\o.isWalk=true:=λr e=>(hrow r e).2;obtain⟨v,hv,hr,hn⟩:=h.box;exact⟨⟨v,(grownBy_keeps hg hrow' hv rfl).trans hv,ownsRow_abides_a hr hg hrow',hn⟩,(grownBy_keeps hg hrow' h.L rfl).trans h.L,(grownBy_keeps hg hrow' h.K rfl).trans h.K,
  h.below.grown hg h.below.size (λk e=>zl hB (hrow k e).1)⟩
theorem RG (F:Fence) (m:Nat) (w0:World) (fn:FuncId) (hfn:F.fn fn) (sv:Value) (Bs l D:Nat) (hBl:Bs≠l) (hDl:D≠l) (hDB:D≠Bs) (h0B:w0.heap.size<=Bs) (h0l:w0.heap.size<=l)
 (N:Nat) (hN:N<=maxLen) (hNb:N*8<=140737488355328) (ss:List Nat) (x:Nat) (W:World) (h:Gp w0 fn sv Bs l D ss W) (hlen:ss.length<N):
 YieldAt F m prog l #[bU x] W λe W'=>e=.returned (.bool true)/\Gp w0 fn sv Bs l D (ss++[x]) W'/\KeepsWalks W W':=by
 obtain⟨i0,hi,hz0,hz1,hz2⟩:=info_parts wU;obtain⟨v,hv,hrow,_⟩:=h.box;refine⟨fn,#[.slice none 0 0,sv,.pointer (some ⟨Bs,0,none⟩),undef,.slice none 0 0,undef,sv,bU x,undef,undef,undef,undef,undef],uE,DJ,by simpa[kQ] using run_yield (P:=prog) (args:=#[bU x]) h.L rfl,roundIn_of_wpIn hfn ?_⟩;have hl:l<W.heap.size:=(zm.1 h.L).1;have hbr:=run_beginRound (P:=prog) h.L rfl;obtain⟨W2,hW2⟩:∃W2,W.putObj l (.loop {kQ fn sv Bs D .ready none with state:=.busy})=W2:=⟨_,rfl⟩;rw[hW2] at hbr;have hg2:W.grownBy W2 (some l):=by rw[<-hW2];exact grownBy_putObj_a _ _ _
 have hk2:KeepsWalks W W2:=by rw[<-hW2];exact KeepsWalks.putObj _ h.L rfl
 have hv2:W2.heap[Bs]? =some (.cells #[v] 105 (0,0)):=by rw[<-hW2];exact(World.putObj_heap_other hBl).trans hv
 have hK2:W2.heap[D]? =some (.deferred (some [])):=by rw[<-hW2];exact(World.putObj_heap_other hDl).trans h.K
 have hL2:W2.heap[l]? =some (.loop {kQ fn sv Bs D .ready none with state:=.busy}):=by rw[<-hW2];exact World.putObj_heap_same hl
 have hrow2:W2.ownsRow w0.heap.size 24 1 v ss.length (ss.map bU):=hrow.kept hg2 (ownsRow_ne_a hrow h.L (λcur e=>by cases e));have hb2:zB w0 W2:=h.below.grown hg2 h.below.size (λk e=>by cases e;exact h0l);obtain⟨hc2,hf2⟩:=cell_of_box_a hv2;have hBlt:Bs<W2.heap.size:=(zm.1 hv2).1;have hl2:l<W2.heap.size:=(zm.1 hL2).1;have hDlt:D<W2.heap.size:=(zm.1 hK2).1;have ne_of:∀{j:Nat} {o:Obj},W2.heap[j]? =some o->(∀cur,o≠.cells cur 24 (0,0))->some j≠v.ownBlock:=λhj hno=>by
  rcases ownsRow_ne_a hrow2 hj hno with e | e
  ·rw[e];simp
  ·exact λe'=>e e'.symm
 clear hW2;unfold uE
 gi_wp2_with (rw[Oper.semAt_eq _ _ _ (λc h=>by cases h)];go_simp;try go_bits)
 unfold DJ
 gi_wp2_with (first
  | (gi_at_builtin;refine wpListIn_append_own _ rfl _ _ 105 rfl w0.heap.size 24 i0 (.int .u64 0) 1 8 underlying105 hi hz0 hz1 hz2 rfl (by decide) _ _ _ rfl (hrow2.alloc _) ⟨W2.heap.size,0,none⟩ 1 1 [bU x] rfl rfl (cell_one_new _ _ _) (by simp[Value.oneCell',bU]) (by omega) (by omega) (by have:=hb2.size;simp;omega) ?_;intro v' w3 hown' hg3 hnil3
     have hv3:w3.heap[Bs]? =some (.cells #[v] 105 (0,0)):=(hg3.block Bs (by simp;omega) (ne_of hv2 (λcur e=>by cases e))).trans ((Below.heap_alloc _ _ Bs hBlt).trans hv2);obtain⟨hc3,hf3⟩:=cell_of_box_a hv3;obtain⟨g',cap',cur',rfl,hbase',hgb',hr1,hr2,hr3,hr4⟩:∃g' cap' cur',v'=.slice (some ⟨g',0,none⟩) (ss.length+1) cap'/\w0.heap.size<=g'/\w3.heap[g']? =some (.cells cur' 24 (0,0))/\ss.length+1<=cap'/\cap'<=maxLen/\cur'.size=cap'*1/\cur'.toList.take ((ss.length+1)*1)=ss.map bU++[bU x]:=by
      rcases hown'.2 with⟨_,h0⟩ | h'
      ·exact absurd h0 (by omega)
      ·exact h'
     go_frame)
  | (rw[Oper.semAt_eq _ _ _ (λc h=>by cases h)];go_simp;try go_bits))
 have hg3':(W2.alloc (.cells #[bU x] 24)).grownBy w3 v.ownBlock:=hg3;have hL3:w3.heap[l]? =some (.loop {kQ fn sv Bs D .ready none with state:=.busy}):=(hg3'.block l (by simp;omega) (ne_of hL2 (λcur e=>by cases e))).trans ((Below.heap_alloc _ _ l hl2).trans hL2);have hK3:w3.heap[D]? =some (.deferred (some [])):=(hg3'.block D (by simp;omega) (ne_of hK2 (λcur e=>by cases e))).trans ((Below.heap_alloc _ _ D hDlt).trans hK2);obtain⟨w4,hw4⟩:∃w4,w3.setCell ⟨Bs,0,none⟩ (.slice (some ⟨g',0,none⟩) (ss.length+1) cap')=w4:=⟨_,rfl⟩;rw[hw4];have hg4:w3.grownBy w4 (some Bs):=by rw[<-hw4];exact grownBy_setCell0_a _ _ _
 have hv4:w4.heap[Bs]? =some (.cells #[.slice (some ⟨g',0,none⟩) (ss.length+1) cap'] 105 (0,0)):=by rw[<-hw4];exact heap_setCell_box_a _ hv3
 have hL4:w4.heap[l]? =some (.loop {kQ fn sv Bs D .ready none with state:=.busy}):=(hg4.block l (zm.1 hL3).1 (λe=>hBl (by cases e;rfl))).trans hL3;have hK4:w4.heap[D]? =some (.deferred (some [])):=(hg4.block D (zm.1 hK3).1 (λe=>hDB (by cases e;rfl))).trans hK3;have hrow4:=hown'.kept hg4 (ownsRow_ne_a hown' hv3 (λcur e=>by cases e));have hl4:l<w4.heap.size:=(zm.1 hL4).1;have hb3:zB w0 w3:=(hb2.alloc hb2.size _).grown hg3' (by have:=hb2.size;simp;omega) (λk e=>(hrow2.lt k e).1);have hb4:zB w0 w4:=hb3.grown hg4 hb3.size (λk e=>by cases e;exact h0B);have hk4:KeepsWalks W w4:=((hk2.trans (KeepsWalks.alloc _ _)).trans (KeepsWalks.of_grownBy hg3' (ownsRow_not_walk_a (hrow2.alloc _)))).trans (by rw[<-hw4];exact KeepsWalks.setCell _ _ _);clear hw4;refine⟨_,_,run_endRound none hL4,rfl,⟨⟨_,(World.putObj_heap_other hBl).trans hv4,?_,by simp⟩,World.putObj_heap_same hl4,(World.putObj_heap_other hDl).trans hK4,hb4.grown (grownBy_putObj_a _ _ _) hb4.size (λk e=>by cases e;exact h0l)⟩,hk4.trans (KeepsWalks.putObj _ hL4 rfl)⟩;have:=hrow4.kept (grownBy_putObj_a w4 l (.loop {{kQ fn sv Bs D .ready none with state:=.busy} with state:=if(none:Option Code).isNone then .ready else .done,pending:=none})) (ownsRow_ne_a hrow4 hL4 (λcur e=>by cases e));simpa using this
theorem Bf (F:Fence) (n:Nat) (h11:F.fn 238) (hro:F.round=none) (hn:2<=n) (g:Nat) (lb:Array Value) (hFg:F.fn g) (eg:∀args w,(callFunc g args).run prog w=.ok (.enter g args) w)
 (S:List Nat->Prop) (N:Nat) (hN:N<=maxLen) (hNb:N*8<=140737488355328) (w:World) (hseq:SeqGives F (n-1) prog g lb bU S N w):
 CallsIn F n prog 238 #[.slice none 0 0,.func (.func g) #[] lb] w λe w'=>∃(v:Value) (ss:List Nat),e=.returned v/\S ss/\w'.ownsRow w.heap.size 24 1 v ss.length (ss.map bU)/\(v=.slice none 0 0↔ss=[])/\zB w w':=by
 have h1:1<=n:=by omega
 refine callsIn_of_wp_marks func238 rfl h11 ?_ hro;simp only[ntmps238,zV,zP,zap,Nat.reduceAdd,Nat.reduceSub,zac,zab,zan,zae,zaa,zal]
 gi_wp2
 refine wpIn_rangeFunc ?_;intro fn hfn;rw[hro];obtain⟨W0,hW0⟩:∃W0,w.alloc (.cells #[.slice none 0 0] 105)=W0:=⟨_,rfl⟩;have hs0:W0.heap.size=w.heap.size+1:=by rw[<-hW0];simp
 have hv0:W0.heap[w.heap.size]? =some (.cells #[.slice none 0 0] 105 (0,0)):=by rw[<-hW0];exact World.alloc_heap_new w _
 have hb0:zB w W0:=by rw[<-hW0];exact(Below.refl _ w).alloc (za _) _
 rw[hW0];obtain⟨W1,hW1⟩:∃W1,(W0.alloc (.deferred (some []))).alloc (.loop (kQ fn (.func (.func g) #[] lb) w.heap.size W0.heap.size .ready none))=W1:=⟨_,rfl⟩;have hold:∀k,k<W0.heap.size->W1.heap[k]? =W0.heap[k]? :=λk hk=>by
  rw[<-hW1];exact(Below.heap_alloc _ _ k (by simp;omega)).trans (Below.heap_alloc _ _ k hk)
 have hb1:zB w W1:=by rw[<-hW1];exact(hb0.alloc hb0.size _).alloc (by have:=hb0.size;simp;omega) _
 have hs1:W1.heap.size=W0.heap.size+2:=by rw[<-hW1];simp
 have hM:Gp w fn (.func (.func g) #[] lb) w.heap.size (W0.heap.size+1) W0.heap.size [] W1:=
  ⟨⟨_,(hold w.heap.size (by omega)).trans hv0,⟨rfl,.inl ⟨rfl,rfl⟩⟩,by simp⟩,
   by rw[<-hW1];have:=World.alloc_heap_new (W0.alloc (.deferred (some []))) (.loop (kQ fn (.func (.func g) #[] lb) w.heap.size W0.heap.size .ready none));rwa [World.size_alloc] at this,
   by rw[<-hW1];exact(Below.heap_alloc _ _ _ (by simp)).trans (World.alloc_heap_new W0 _),hb1⟩
 refine⟨W0.heap.size+1,[{target:=.collected W0.heap.size,args:=#[]}],W1,{target:=.fn (.func g) lb,args:=#[.func (.yield (W0.heap.size+1)) #[] #[]]},W1,g,
  #[.func (.yield (W0.heap.size+1)) #[] #[]]++lb,W1,?_,?_,?_,?_,λ_=>h1,?_⟩
 ·rw[<-hW1];exact run_enterLoop_outer _ _ _ _ _
 ·simp[resolve,go_sem]
 ·intro f' hf';simp[Target.leads] at hf';subst hf';exact hFg
 ·simp[invoke,go_sem,eg]
 ·refine(hseq (W0.heap.size+1) (Gp w fn (.func (.func g) #[] lb) w.heap.size (W0.heap.size+1) W0.heap.size) W1 hb1 (Jw _ _ _ _ _ _ _ hb1.size)
   (λpre x W hJ hl=>RG F (n-1-1) w fn hfn _ w.heap.size (W0.heap.size+1) W0.heap.size (by omega) (by omega) (by omega) (za _) (by omega) N hN hNb pre x W hJ hl) hM).mono ?_
  rintro e W2 ⟨⟨v0,rfl⟩,ss,hS,h2⟩;obtain⟨v,hv,hrow,hnil⟩:=h2.box;have hend:=run_endLoop (P:=prog) h2.L (by simp[kQ]);obtain⟨W3,hW3⟩:∃W3,W2.putObj (W0.heap.size+1) (.loop {kQ fn (.func (.func g) #[] lb) w.heap.size W0.heap.size .ready none with state:=.exhausted})=W3:=⟨_,rfl⟩;rw[hW3] at hend;have hg3:W2.grownBy W3 (some (W0.heap.size+1)):=by rw[<-hW3];exact grownBy_putObj_a _ _ _
  have hv3:W3.heap[w.heap.size]? =some (.cells #[v] 105 (0,0)):=by rw[<-hW3];exact(World.putObj_heap_other (by omega)).trans hv
  have hK3:W3.heap[W0.heap.size]? =some (.deferred (some [])):=by rw[<-hW3];exact(World.putObj_heap_other (by omega)).trans h2.K
  have hrow3:=hrow.kept hg3 (ownsRow_ne_a hrow h2.L (λcur e=>by cases e));have hb3:zB w W3:=h2.below.grown hg3 h2.below.size (λk e=>by cases e;omega);obtain⟨hc3,hf3⟩:=cell_of_box_a hv3;clear hW3;refine⟨none,W3,hend,?_⟩
  gi_wp2
  rw[<-hs0];refine⟨by simp,.inl ⟨_,_,rfl,run_takeDeferred hK3,?_⟩⟩;exact⟨_,results_tmp rfl _ _ _,v,ss,rfl,hS,hrow3.kept (grownBy_putObj_a _ _ _) (ownsRow_ne_a hrow3 hK3 (λcur e=>by cases e)),hnil,hb3.grown (grownBy_putObj_a _ _ _) hb3.size (λk e=>by cases e;omega)⟩
theorem FX (F:Fence) (n:Nat) (h8:F.fn 187) (h11:F.fn 238) (hro:F.round=none) (hn:3<=n) (g:Nat) (lb:Array Value) (hFg:F.fn g) (eg:∀args w,(callFunc g args).run prog w=.ok (.enter g args) w)
 (S:List Nat->Prop) (N:Nat) (hN:N<=maxLen) (hNb:N*8<=140737488355328) (w:World) (hseq:SeqGives F (n-1-1) prog g lb bU S N w):
 CallsIn F n prog 187 #[.func (.func g) #[] lb] w λe w'=>∃(v:Value) (ss:List Nat),e=.returned v/\S ss/\w'.ownsRow w.heap.size 24 1 v ss.length (ss.map bU)/\(v=.slice none 0 0↔ss=[])/\zB w w':=by
 have h1:1<=n:=by omega
 refine callsIn_of_wp func187 rfl h8 ?_ hro;simp only[ntmps187,zV,zP,zap,Nat.reduceAdd,Nat.reduceSub,zac,zab,zan,zae,zaa,zal]
 gi_wp2_with (gi_at_call 238;refine(Bf F (n-1) h11 hro (by omega) g lb hFg eg S N hN hNb _ hseq).mono ?_;rintro e w' ⟨v,ss,rfl,hS,hrow,hnil,hb⟩)
 go_ret;exact⟨v,ss,rfl,hS,hrow,hnil,hb⟩
end
section
open Go.Maps Go.Sort
theorem Pr (F:Fence) (n:Nat) (h7:F.fn 121) (hro:F.round=none) (mb:Option Nat) (w:World):
 CallsIn F n prog 121 #[.map mb] w λe w'=>e=.returned (.func (.func 189) #[] #[.pointer (some ⟨w.heap.size,0,none⟩)])/\w'=w.alloc (.cells #[.map mb] 198):=by
 refine callsIn_of_wp func121 rfl h7 ?_ hro;simp only[ntmps121,zV,zP,zap,Nat.reduceAdd,Nat.reduceSub,zac,zab,zan,zae,zaa,zal]
 gi_wp2
 go_ret;exact⟨rfl,rfl⟩
theorem Ff (F:Fence) (n:Nat) (h10:F.fn 189) (hro:F.round=none) (hn:1<=n) (Bm b nn:Nat) (D0:DataW Value) (w:World) (hBm:Bm<w.heap.size)
 (hm:w.cell? ⟨Bm,0,none⟩=some (.map (some b))) (hown:w.ownsMap prog 24 mI b nn D0):
 SeqGives F n prog 189 #[.pointer (some ⟨Bm,0,none⟩)] bU (λss=>ss.Nodup/\∀x,x∈ss↔has D0 (jG x)=true) (Maps.size D0) w:=λl J W hW hJ hY h0=>by
 have hown':W.ownsMap prog 24 mI b nn D0:=by
  have hbl:=hown.lt;obtain⟨es,clock,hb,Ft,hs,hD⟩:=hown;exact⟨es,clock,(hW.block b hbl).trans hb,Ft,hs,hD⟩
 exact Mp F n h10 hro hn l Bm b nn D0 J hY W hJ ((hW.cell (p:=⟨Bm,0,none⟩) hBm).trans hm) hown' h0
theorem ye (p:Option Addr) (cap:Nat) (w:World):
 Calls prog 281 #[.slice p 0 cap,.int .i64 0,.int .i64 0] w λe w'=>e=.returned (.tuple #[])/\w'=w:=by
 go_enter func281,ntmps281;go_wp2_with fail;refine wp_loop_rounds 1 ?_;rw[rounds_succ];go_wp2_with fail
 go_end0
 exact⟨rfl,rfl⟩
theorem O8 (p:Option Addr) (cap:Nat) (w:World) (lim:Int):
 Calls prog 239 #[.slice p 0 cap,.int .i64 0,.int .i64 0,.int .i64 lim] w λe w'=>e=.returned (.tuple #[])/\w'=w:=by
 have HI:=zH (ye p cap w);go_enter func239,ntmps239;go_wp2_with fail;refine wp_loop_rounds 1 ?_;rw[rounds_succ];go_wp2_with fail;refine HI.out.mono ?_;rintro e w1 ⟨rfl,hw⟩;subst w1;go_wp2_with fail;refine bodyPost_ret (results_none rfl _ _ _) rfl ?_;exact⟨rfl,rfl⟩
theorem LF (p:Option Addr) (cap:Nat) (w:World):
 Calls prog 188 #[.slice p 0 cap] w λe w'=>e=.returned (.tuple #[])/\w'=w:=by
 have HP:=zH (O8 p cap w);have HL:=zH fun(x:Int) (W:World) (h0:0<=x) (h1:x<=18446744073709551615)=>Tryz.bits_Len x W h0 h1;go_enter func188,ntmps188;go_wp2_with fail;refine(HL.out _ _ (by omega) (by omega)).mono ?_;rintro e w1 ⟨rfl,hw⟩;subst w1;go_wp2_with fail;refine(HP.out _).mono ?_;rintro e w1 ⟨rfl,hw⟩;subst w1;go_wp2_with fail
 go_end0
 exact⟨rfl,rfl⟩
theorem G6 {w:World} {Bm:Nat} {lk:Nat->Option Value} (hm:w.cell? ⟨Bm,0,none⟩=some (.map (some b))) (hBm:Bm<w.heap.size) (hM:nN prog 24 w b m lk) (h12:m<=12):
 Calls prog 120 #[.func (.func 189) #[] #[.pointer (some ⟨Bm,0,none⟩)]] w λe w'=>
  ∃v ss,e=.returned v/\ss.Nodup/\(∀x,x∈ss↔(lk x).isSome)/\w'.ownsRow w.heap.size 24 1 v ss.length ((Sp.sorted ss).map bU)/\zB w w':=by
 obtain⟨D,hown,hsz,hlk⟩:=hM;have hseq:=Ff Fence.wide (5-1-1) trivial rfl (by omega) Bm b m D w hBm hm hown;have HC:=zH (callsIn_wide.1 (FX Fence.wide 5 trivial trivial rfl (by omega) 189 _ trivial (enters_of func189 (by kernel_rfl) rfl) _ (Maps.size D) (by unfold maxLen;omega) (by omega) w hseq.bounded));go_enter func120,ntmps120;go_wp2_with fail;refine HC.out.mono ?_;rintro e w1 ⟨v,ss,rfl,⟨⟨hnd,hS⟩,hlen⟩,hrow,hnil,hb⟩;have hS':∀x,x∈ss↔(lk x).isSome:=λx=>by
  rw[hS x]
  cases hl:lk x with
  | none=>simp[(hlk x).2 hl]
  | some i=>simp[((hlk x).1 i hl).1]
 rcases hrow.2 with⟨rfl,h0⟩ | ⟨g,cap,cur,rfl,hbg,hh,r1,r2,r3,r4⟩
 ·have he:ss=[]:=zy h0;subst he;have HN:=zH (LF none 0 w1);go_wp2_with fail;refine HN.out.mono ?_;rintro e w2 ⟨rfl,hw⟩;subst w2;go_wp2_with fail;go_ret;have e0:Sp.sorted []=[]:=zy (by rw[(Sp.aX []).1.length_eq];rfl);exact⟨.slice none 0 0,[],rfl,hnd,hS',by rw[e0];exact World.ownsRow_nil _ _ _ _,hb⟩
 ·have VF:∀j,j<ss.length->cur[j]? =some (bU ss[j]!):=λj hj=>by
   have:=congrArg (λl=>l[j]?) r4;simp only[Nat.mul_one,zT,hj,if_true] at this;rw[zZ] at this;rw[this];simp[hj]
  have HS:=zH (LB (cap:=cap) (show aj w1 g 24 cur from hh) (by omega) VF);have Fq:(Sp.sorted ss).length=ss.length:=(Sp.aX ss).1.length_eq;go_wp2_with fail;refine HS.out.mono ?_;rintro e w2 ⟨rfl,cs',Y3,hsz',hc',hg'⟩;go_wp2_with fail;go_ret;refine⟨.slice (some ⟨g,0,none⟩) ss.length cap,ss,rfl,hnd,hS',⟨by simp[Fq],.inr ⟨g,cap,cs',rfl,hbg,Y3,r1,r2,by rw[hsz'];exact r3,?_⟩⟩,hb.grown hg' hb.size (λk e=>by injection e with e;omega)⟩;apply za9;intro j;rw[Nat.mul_one,zT]
  split
  ·rename_i hj;rw[zZ,hc' j hj,zN,zk (by omega),zG _ j (by omega)];rfl
  ·rename_i hj;rw[List.getElem?_eq_none (by simp;omega)]
end
section
open Go.Conc Go.Maps
abbrev NA (x:Sp.Tx):List Value:=[.int .u64 x.tx,.int .u64 x.first,.int .u64 x.last,.int .u64 x.next,.int .u32 x.page,.int .u16 x.slot]
theorem Oc:(prog.info? 123).map (λi=>(i.zero,i.size,i.bytes))=some (some txZ,6,40):=by kernel_rfl
theorem LM {w:World} {base base':Nat} (h:w.ownsRow base e sz v n xs) (hb:base'<=base):w.ownsRow base' e sz v n xs:=by
 refine⟨h.1,?_⟩;rcases h.2 with h' | ⟨b,cap,cur,rfl,AV,rest⟩
 ·exact .inl h'
 ·exact .inr ⟨b,cap,cur,rfl,zl hb AV,rest⟩
theorem LA {l':List Nat} (h:l.Perm l') (hs:l'.Pairwise (· < ·)):Sp.sorted l=l':=
 List.Perm.eq_of_pairwise (le:=λa b=>a<=b) (λ_ _ _ _ h1 h2=>Nat.le_antisymm h1 h2) (Sp.aX l).2 (hs.imp Nat.le_of_lt) ((Sp.aX l).1.trans h)
theorem M4 {g:Nat->List Value} (h:k<ids.length):(ids.take (k+1)).flatMap g=(ids.take k).flatMap g++g ids[k]:=by
 rw[zg h,List.flatMap_append];simp
theorem JT {tx num:Nat} {w:World} {lk:Nat->Option Value} {f:Nat->Sp.Tx} (h:j_ mb cb w gt n lk tx num) (hlk:∀p,lk p=if p∈ids then some (f p).val else none) (hs:ids.Pairwise (· < ·)) (h12:n<=12) (MB:ids.length<=1000) (I5:∀p∈ids,p<18446744073709551616):
 Calls prog 45 #[ptr gt] w λe w'=>∃v,e=.returned v/\w'.ownsRow w.heap.size 123 6 v ids.length (ids.flatMap λp=>NA (f p))/\zB w w':=by
 have HM:=zH (r6 h.blk);have c0:=h.blk.cell 0;simp only[zGA,zGC] at c0;have HK:=zH (callsIn_wide.1 (Pr Fence.wide 5 trivial rfl (some mb) w));have hb0:=(zR w).alloc (za _) (.cells #[.map (some mb)] 198);have HS:=zH (G6 (w:=w.alloc (.cells #[.map (some mb)] 198)) (Bm:=w.heap.size) (((aj.new w 198 #[.map (some mb)]).cell 0).trans rfl) (by simp) (h.map.keep (Below.heap_alloc _ _ _ h.map.lt)) h12);have H:=zH h;have hgt:=h.blk.lt;have hmb:=h.map.lt;have Gf:=zH hlk;have H64:=zH I5;clear h;go_enter func45,ntmps45;go_wp2_with fail;refine HM.out.mono ?_;rintro e w1 ⟨rfl,hw⟩;subst w1;go_wp2_with fail;refine HK.out.mono ?_;rintro e w1 ⟨rfl,hw⟩;subst w1;go_wp2_with fail;refine HS.out.mono ?_;rintro e w2 ⟨v2,ss,rfl,hnd,hS,hrow,hb⟩;have hidn:ids.Nodup:=hs.imp (λh=>Nat.ne_of_lt h);have eY:ss.Perm ids:=(List.perm_ext_iff_of_nodup hnd hidn).2 λx=>by
  rw[hS x,Gf.out x]
  split<;>simp[*]
 rw[LA eY hs,eY.length_eq] at hrow;have cH:zB w w2:=hb0.trans (hb.mono (by simp));obtain⟨A,c,rfl⟩:∃A c,v2=.slice A ids.length c:=by
  rcases hrow.2 with⟨rfl,h0⟩ | ⟨g,cap,cur,rfl,_⟩
  ·exact⟨none,0,by rw[h0]⟩
  ·exact⟨_,_,rfl⟩
 have rT:=zH hrow;have jA:=zH cH;clear hb hb0 hrow cH HM HK HS hS hnd eY c0;go_wp2_with fail;go_loopw [2,15] (λv2 v15 wr=>∃(k:Nat) (u:Value),u=v2/\k<=ids.length/\v15=.int .i64 k/\wr.ownsRow w2.heap.size 123 6 u k ((ids.take k).flatMap λp=>NA (f p))/\zB w2 wr) (λ_ v15 _=>ids.length-(intOf v15).toNat)
 case atStart=>exact⟨0,_,rfl,by omega,rfl,World.ownsRow_nil _ _ _ _,Below.refl _ _⟩
 case round=>
  obtain⟨k,u,rfl,hk,rfl,ho,hbr⟩:=hrel;by_cases hlt:k<ids.length
  ·obtain⟨ip,Km,oK,hp1,sU⟩:=info_parts Oc;have hmem:=zw hlt;have h64k:=H64.out _ hmem;obtain⟨g,rfl⟩:∃g,A=some ⟨g,0,none⟩:=by
    rcases rT.out.2 with⟨h0,h1⟩ | ⟨g,cap,cur,h0,_⟩
    ·omega
    ·injection h0 with a1;exact⟨g,a1⟩
   have kW:=(rT.out.lt g rfl).2;have x0:w2.cell? ⟨g,k,none⟩=some (bU ids[k]):=by
    have:=rT.out.cells (g:=g) rfl k (bU ids[k]) (by simp[hlt]);have e3:(⟨g,0,none⟩:Addr).add k=⟨g,k,none⟩:=by cases k<;>simp[Addr.add]
    rwa [e3] at this
   have x1:wr.cell? ⟨g,k,none⟩=some (bU ids[k]):=(hbr.cell (p:=⟨g,k,none⟩) kW).trans x0;have hB:aj wr gt 201 #[.map (some mb),.chan (some cb),.int .u64 tx,.int .u64 num]:=(hbr.block gt (by have:=jA.out.size;omega)).trans ((jA.out.block gt hgt).trans H.out.blk);have c0:=hB.cell 0;simp only[zGA,zGC] at c0;have hl:=((H.out.map.keep (jA.out.block mb hmb)).keep (hbr.block mb (by have:=jA.out.size;omega))).look underlying24 underlying198 (JU wr) h64k;rw[Gf.out,zK hmem] at hl;simp only[Option.getD_some] at hl;have hs2:w2.heap.size<=wr.heap.size:=hbr.size;have HO:=zH ho;have HN:=zH (e8 (cs:=(NA (f ids[k]))) (aj.new wr 123 (NA (f ids[k])).toArray));have eo:=zH (hbr.alloc hs2 (.cells (NA (f ids[k])).toArray 123));have hkl:k<=1000:=by omega
   obtain⟨p,hp⟩:=zE (ids[k]);have HT:=zH (M4 (g:=λp=>NA (f p)) hlt);rw[<-hp] at x1 hl HN eo HT;obtain⟨x,hx⟩:=zE (f p);rw[<-hx] at hl HN eo;simp only[Sp.Tx.val,Sp.Tx.cs] at hl;replace hx:=zH hx;clear ho x0 hB hbr hp h64k hmem;go_wp2_with (at_builtin;refine aO _ rfl _ _ 125 rfl w2.heap.size 123 ip txZ 6 40 underlying125 Km oK hp1 sU rfl (by decide) _ k _ rfl (HO.out.alloc _) ⟨wr.heap.size,0,none⟩ 1 1 (NA x) rfl rfl HN.out (λx hx=>by simp at hx;rcases hx with rfl | rfl | rfl | rfl | rfl | rfl<;>rfl) (by unfold maxLen;omega) (by omega) (by simp;omega) ?_;intro v' w7 q1 q2 q3);have jZ:=eo.out.grown q2 (by simp;omega) (λr e=>Ez HO.out e);rw[hx.out,<-HT.out] at q1;have HQ:=zH q1;have jr:=zH jZ;clear q1 q2 q3 jZ HO HN eo;go_roundw
   case rel=>exact⟨k+1,v',rfl,hlt,by go_num,HQ.out,jr.out⟩
   case measure=>simp[intOf];omega
  ·obtain rfl:k=ids.length:=by omega
   rw[zL] at ho;have HO:=zH (LM ho jA.out.size);have HB:=zH (jA.out.trans (hbr.mono jA.out.size));clear ho hbr;go_wp2_with fail;go_ret;exact⟨u,rfl,HO.out,HB.out⟩
end
theorem Sp.M0 (aL:Nat) (t z:Sp.Bs):((Sp.frame aL t++z).drop 0).take 2=Sp.be 2 t.length/\((Sp.frame aL t++z).drop 2).take 8=Sp.be 8 aL/\(Sp.frame aL t++z).take 10=Sp.be 2 t.length++Sp.be 8 aL/\((Sp.frame aL t++z).drop 10).take 4=Sp.dK (Sp.be 2 t.length++Sp.be 8 aL++t)/\((Sp.frame aL t++z).drop 14).take t.length=t:=by
 have e:Sp.frame aL t++z=Sp.be 2 t.length++(Sp.be 8 aL++(Sp.dK (Sp.be 2 t.length++Sp.be 8 aL++t)++(t++z))):=by simp[Sp.frame]
 rw[e];have h2:(Sp.be 2 t.length).length=2:=Sp.aV _ _;have h8:(Sp.be 8 aL).length=8:=Sp.aV _ _;have h4:(Sp.dK (Sp.be 2 t.length++Sp.be 8 aL++t)).length=4:=rfl;generalize Sp.dK (Sp.be 2 t.length++Sp.be 8 aL++t)=c at*;generalize Sp.be 2 t.length=a at*;generalize Sp.be 8 aL=b at*;have k2:(a++(b++(c++(t++z)))).drop 2=b++(c++(t++z)):=zav h2;have Ve:(a++(b++(c++(t++z)))).drop 10=c++(t++z):=by rw[show 10=2+8 from rfl,<-za1,k2,zav h8]
 have k14:(a++(b++(c++(t++z)))).drop 14=t++z:=by rw[show 14=10+4 from rfl,<-za1,Ve,zav h4]
 refine⟨by rw[List.drop_zero];exact zaz h2,by rw[k2];exact zaz h8,?_,by rw[Ve];exact zaz h4,by rw[k14];exact zaz rfl⟩;rw[<-zh];exact zaz (by rw[zo,h2,h8])
theorem Dl {t z:Sp.Bs} (w:World) (h1:1<=t.length) (h2:t.length<=4096) (tP:1<=aL) (hl:aL<18446744073709551616) (hz:z.length<=900000000):
 Calls prog 195 #[str (Sp.frame aL t++z),.int .u64 aL] w λe w'=>e=.returned (.tuple #[str t,.int .i64 ((14+t.length:Nat):Int),.int .i64 0])/\zB w w':=by
 obtain⟨k0,k1,k2,k3,k4⟩:=Sp.M0 aL t z;have hlen:(Sp.frame aL t++z).length=14+t.length+z.length:=by rw[zo,Sp.bR]
 generalize Sp.frame aL t++z=s at*;obtain⟨m,hm⟩:=zE t.length;have SM:=zH fun(W:World)=>ee s 0 2 W (by omega) (by omega) (by omega) (by omega);have SL:=zH fun(W:World)=>ee s 2 8 W (by omega) (by omega) (by omega) (by omega);rw[k0,Sp.cV (k:=2) (show t.length<256 ^ 2 by omega),<-hm] at SM;rw[k1,Sp.cV (k:=8) hl] at SL;have HS:=zH fun(W:World)=>s8 (Sp.be 2 t.length++Sp.be 8 aL) t W (by simp;omega);have HZ:=zH fun(W:World)=>kM m W (by omega);have d1:decide ((s.length:Int)<14)=false:=by rw[ze];omega
 have d2:IntKind.i64.wrap ((m:Nat):Int)=(m:Nat):=IntWalk.i64_in _ (by omega);have n1:¬s.length<14:=by omega
 have XM:14+m<=s.length:=by omega
 have hm1:1<=m:=by omega
 have hm2:m<=4096:=by omega
 have NI:s.length<=900010000:=by omega
 rw[zK ⟨hm1,hm2⟩] at HZ;rw[<-hm] at HS k4 ⊢;have hk4:(s.drop 14).take (14+m-14)=t:=by rw[za5];exact k4
 have K2:=zH k2;have K3:=zH k3;have K4:=zH hk4;rw[<-hm] at K2 K3;have HM:=zH hm;clear hlen hm k0 k1 k2 k3 k4 hk4 h1 h2 hz;go_enter func195,ntmps195;go_wp2_with fail;refine(SM.out w).mono ?_;rintro e w1 ⟨rfl,hb1⟩;go_wp2_with fail;refine(SL.out w1).mono ?_;rintro e w2 ⟨rfl,hb2⟩;go_wp2_with fail;refine(HZ.out w2).mono ?_;rintro e w3 ⟨rfl,hw⟩;subst w3;have n2:((14:Int)+(m:Int)==0)=false:=by simp;omega
 have n3:¬((14:Int)+(m:Int)=0):=by omega
 have n4:((aL:Int)==0)=false:=by simp;omega
 have n5:decide ((s.length:Int)<14+(m:Int))=false:=by rw[ze];omega
 have n6:¬((s.length:Int)<14+(m:Int)):=by omega
 have n7:¬aL=0:=by omega
 have i1:(10:Int)<=(s.length:Int):=by omega
 have i2:(14:Int)<=(s.length:Int):=by omega
 have i3:(14:Int)+(m:Int)<=(s.length:Int):=by omega
 have i4:(14:Int)<=14+(m:Int):=by omega
 go_wp2_with fail;have UI:=zH (show True from trivial);refine eV (λ_=>True) (λ_=>false) rfl ?_;refine vo 0 42 UI.out ?_;refine vo 2 44 UI.out ?_;refine vo 3 45 UI.out ?_;refine vo 6 48 UI.out ?_;refine kS 1 43 (v:=str (Sp.be 2 m++Sp.be 8 aL)) UI.out ?_ (hy:=by intro w hSw;go_simp;rw[dw,<-K2.out];simp);simp only[zSA,zSB,zSC];refine kS 4 46 (v:=str t) UI.out ?_ (hy:=by intro w hSw;go_simp;rw[show((14:Int)+(m:Int)).toNat=14+m by omega,dw,K4.out]);simp only[zSA,zSB,zSC];refine kS 7 49 (v:=str (Sp.dK (Sp.be 2 m++Sp.be 8 aL++t))) UI.out ?_ (hy:=by intro w hSw;go_simp;rw[dw,show 14-10=4 from rfl,K3.out,zh]);simp only[zSA,zSB,zSC];have Zu:=zH (HS.out w2.drew);refine aI 5 47 (w':=w2.drew) rfl rfl (by rfl) (by kernel_rfl) ?_ Zu.out ?_
 ·go_simp
 rintro e w5 ⟨rfl,cS⟩;refine⟨_,rfl,λ_=>trivial,?_⟩;simp only[zSA,zSB,zSC];refine vo 8 50 (v:=.bool false) UI.out ?_;refine vo 9 41 UI.out ?_;refine aC (by kernel_rfl) ?_ _;rename_i K9 aT;refine aT _ _ ?_;clear aT;have D9:=zH ((hb1.trans (hb2.mono hb1.size)).drew.trans (cS.mono (zl hb1.size hb2.size)));have hx14:(⟨s.toArray⟩:ByteArray).extract 14 (14+m)=⟨t.toArray⟩:=by rw[dw,K4.out]
 have HX14:=zH hx14;clear hb1 hb2 cS hx14;go_wp2_with fail
 go_ret3
 exact⟨by first | rfl | (rw[HX14.out];rfl),D9.out⟩
namespace Sp
def frames (rs:List (Nat×Bs)):Bs:=rs.flatMap λr=>frame r.1 r.2
theorem jc (a b:List (Nat×Bs)):frames (a++b)=frames a++frames b:=by simp[frames]
theorem iq (r:Nat×Bs) (b:List (Nat×Bs)):frames (r::b)=frame r.1 r.2++frames b:=by simp[frames]
def dD:Nat->List (Nat×Bs)->Nat->Prop
 | a,[],z=>a=z
 | a,r::rs,z=>r.1=a/\1<=r.2.length/\r.2.length<=4096/\dD (a+(14+r.2.length)) rs z
theorem dD.split:∀{xs ys:List (Nat×Bs)} {a z:Nat},dD a (xs++ys) z->∃m,dD a xs m/\dD m ys z
 | [],ys,a,z,h=>⟨a,rfl,h⟩
 | x::xs,ys,a,z,h=>by
  obtain⟨h1,h2,h3,h4⟩:=h;obtain⟨m,h5,h6⟩:=dD.split h4;exact⟨m,⟨h1,h2,h3,h5⟩,h6⟩
theorem dD.join:∀{xs ys:List (Nat×Bs)} {a m z:Nat},dD a xs m->dD m ys z->dD a (xs++ys) z
 | [],ys,a,m,z,h,h'=>by have h:a=m:=h;subst h;exact h'
 | x::xs,ys,a,m,z,h,h'=>by
  obtain⟨h1,h2,h3,h4⟩:=h;exact⟨h1,h2,h3,dD.join h4 h'⟩
theorem dD.snoc {xs:List (Nat×Bs)} {a:Nat} (h:dD a xs z) {s:Bs} (h1:1<=s.length) (h2:s.length<=4096):dD a (xs++[(z,s)]) (z+(14+s.length)):=
 h.join ⟨rfl,h1,h2,rfl⟩
theorem dD.length:∀{xs:List (Nat×Bs)} {a z:Nat},dD a xs z->a+(frames xs).length=z
 | [],a,z,h=>h
 | x::xs,a,z,h=>by
  obtain⟨h1,h2,h3,h4⟩:=h;have:=dD.length h4;rw[iq,zo,bR];omega
theorem dD.le {xs:List (Nat×Bs)} {a:Nat} (h:dD a xs z):a<=z:=by have:=h.length;omega
theorem dD.ends {xs:List (Nat×Bs)} {a z':Nat} (h:dD a xs z) (h':dD a xs z'):z=z':=by have:=h.length;have:=h'.length;omega
theorem dD.low:∀{xs:List (Nat×Bs)} {a z:Nat},dD a xs z->∀x∈xs,a<=x.1/\x.1<z
 | x::xs,a,z,h,y,hy=>by
  obtain⟨h1,h2,h3,h4⟩:=h;have h5:=h4.le;rcases zW.1 hy with rfl | hy
  ·omega
  ·have:=dD.low h4 y hy;omega
structure Lg.Is (l:Lg) (rs:List (Nat×Bs)):Prop where
 chain:dD l.first rs l.next
 starts:l.starts=rs.map (·.1)
 bytes:l.bytes.drop (l.first-bg l.first)=frames rs
theorem Lg.Is.new (at_ n life:Nat):(sI at_ n life).Is []:=⟨rfl,rfl,by simp[sI,frames]⟩
theorem Lg.Is.append {l:Lg} {rs:List (Nat×Bs)} (h:l.Is rs) (hw:l.wf) {s:Bs} (h1:1<=s.length) (h2:s.length<=4096):(l.append s).Is (rs++[(l.next,s)]):=by
 refine⟨h.chain.snoc h1 h2,?_,?_⟩
 ·show l.starts++[l.next]=_;rw[h.starts,zI];rfl
 ·show(l.bytes++frame l.next s).drop (l.first-bg l.first)=_;have e1:=hw.len;have e2:=hw.ff;have e3:=hw.fn;rw[List.drop_append_of_le_length (by omega),h.bytes,jc,iq];simp[frames]
theorem Lg.Is.uL {l:Lg} {rs:List (Nat×Bs)} (h:l.Is rs) (f:Nat):({l with forced:=f}:Lg).Is rs:=⟨h.chain,h.starts,h.bytes⟩
theorem Lg.Is.keep {l:Lg} {xs ys:List (Nat×Bs)} (h:l.Is (xs++ys)) (_:l.wf) (h1:dD l.first xs k) (h2:dD k ys l.next):(l.keep k).Is ys:=by
 have e1:=h1.le;have e2:=nI e1;have e3:=kO k;have e4:=kO l.first;have tP:=h1.length;refine⟨h2,?_,?_⟩
 ·show l.starts.filter (λx=>decide (k<=x))=_;rw[h.starts,zI,zba];have a1:(xs.map (·.1)).filter (λx=>decide (k<=x))=[]:=by
   rw[List.filter_eq_nil_iff];intro x hx;obtain⟨y,hy,rfl⟩:=zn.1 hx;have:=h1.low y hy;simp;omega
  have a2:(ys.map (·.1)).filter (λx=>decide (k<=x))=ys.map (·.1):=by
   rw[List.filter_eq_self];intro x hx;obtain⟨y,hy,rfl⟩:=zn.1 hx;have:=h2.low y hy;simp;omega
  rw[a1,a2];rfl
 ·show(l.bytes.drop (bg k-bg l.first)).drop (k-bg k)=_;rw[za1,show bg k-bg l.first+(k-bg k)=(l.first-bg l.first)+(frames xs).length by omega,<-za1,h.bytes,jc,zav];rfl
theorem I_ (n:Nat) (t:Bs):(frame n t).drop 14=t:=by
 unfold frame;exact zav (by simp)
theorem Lg.Is.read {l:Lg} {xs ys:List (Nat×Bs)} {t:Bs} (h:l.Is (xs++(n,t)::ys)):
 ∃hj:xs.length<l.starts.length,l.starts[xs.length]=n/\n+(14+t.length)=(if h:xs.length+1<l.starts.length then l.starts[xs.length+1] else l.next)/\n+(14+t.length)<=l.next/\1<=t.length/\l.first<=n/\(l.bytes.drop (n-bg l.first+14)).take t.length=t:=by
 obtain⟨m,h1,h2⟩:=h.chain.split;obtain⟨rfl,h3,h4,h5⟩:=h2;have h2:=h5.le;have hl:=h1.le;have e4:=kO l.first;have tP:=h1.length;have hst:=h.starts;rw[zI,zF] at hst;have hlen:l.starts.length=xs.length+(1+ys.length):=by rw[hst];simp;omega
 refine⟨by omega,?_,?_,h2,h3,hl,?_⟩
 ·have:l.starts[xs.length]? =some n:=by rw[hst,zO (by simp)];simp
  rw[zk (by omega)] at this;injection this
 ·cases ys with
  | nil=>
   rw[dif_neg (by simp at hlen;omega)];exact h5
  | cons y ys=>
   rw[dif_pos (by simp at hlen;omega)];have:l.starts[xs.length+1]? =some y.1:=by rw[hst,zO (by simp)];simp
   rw[zk (by simp at hlen;omega)] at this;injection this with this;rw[this];exact h5.1.symm
 ·have e:n-bg l.first+14=(l.first-bg l.first)+((frames xs).length+14):=by omega
  rw[e,<-za1,h.bytes,jc,<-za1,zav rfl,iq];show((frame n t++frames ys).drop 14).take t.length=t;rw[List.drop_append_of_le_length (by rw[bR];omega),I_,zaz rfl]
end Sp
open Go.RowKit Go.Conc
namespace Sp
def fU (rs:List (Nat×Bs)) (z j:Nat):Nat:=((rs[j]?).map (·.1)).getD z
theorem mG {rs:List (Nat×Bs)} (h:j<rs.length):fU rs z j=rs[j].1:=by
 unfold fU;rw[zk h];rfl
theorem uf {rs:List (Nat×Bs)} (h:rs.length<=j):fU rs z j=z:=by
 unfold fU;rw[List.getElem?_eq_none h];rfl
theorem dD.at_:∀{rs:List (Nat×Bs)} {a z:Nat},dD a rs z->∀{j:Nat} (h:j<rs.length),1<=rs[j].2.length/\rs[j].2.length<=4096/\fU rs z (j+1)=rs[j].1+(14+rs[j].2.length)/\a<=rs[j].1/\rs[j].1+(14+rs[j].2.length)<=z
 | r::rs,a,z,⟨h1,h2,h3,h4⟩,0,_=>by
  have h5:=h4.le;show 1<=r.2.length/\r.2.length<=4096/\fU (r::rs) z 1=r.1+(14+r.2.length)/\a<=r.1/\r.1+(14+r.2.length)<=z;refine⟨h2,h3,?_,by omega,by omega⟩
  cases rs with
  | nil=>
   rw[uf (by simp)];have h6:a+(14+r.2.length)=z:=h4;omega
  | cons r2 rs=>
   rw[mG (by simp)];have h6:=h4.1;show r2.1=r.1+_;omega
 | r::rs,a,z,⟨h1,h2,h3,h4⟩,j+1,h=>by
  have hj:j<rs.length:=by simpa using h
  obtain⟨k1,k2,k3,k4,k5⟩:=dD.at_ h4 hj;show 1<=rs[j].2.length/\rs[j].2.length<=4096/\fU (r::rs) z (j+1+1)=rs[j].1+(14+rs[j].2.length)/\a<=rs[j].1/\rs[j].1+(14+rs[j].2.length)<=z;exact⟨k1,k2,k3,by omega,k5⟩
theorem FM {rs:List (Nat×Bs)} (h:j<rs.length):frames (rs.drop j)=frame rs[j].1 rs[j].2++frames (rs.drop (j+1)):=by
 rw[zao h,iq]
end Sp
def G4:Option Value->Nat
 | some (.string s)=>s.data.size
 | _=>0
structure Gl (rs:List (Nat×Sp.Bs)) (z gs gn:Nat) (X:Nat->World->Prop) (i j:Nat) (W:World):Prop where
 x:X i W
 bs:aj W gs 9 #[str (Sp.frames (rs.drop j))]
 bn:aj W gn 24 #[.int .u64 (Sp.fU rs z j)]
theorem Ux {rs:List (Nat×Sp.Bs)} {a:Nat} (hch:Sp.dD a rs z) (ha:1<=a) (hz:z<4611686018427387904) (htot:(Sp.frames rs).length<=900000) (gs gn l n:Nat) (hne:gs≠gn) (X:Nat->World->Prop)
 (Ug:∀i W W',X i W->zB W W'->X i W') (YJ:∀i W p v,X i W->(p.block=gs\/p.block=gn)->X i (W.setCell p v))
 (hY:∀j W,(hj:j<rs.length)->Gl rs z gs gn X j j W->YieldAt Fence.wide (n-1) prog l #[str rs[j].2,.int .i64 0] W λe W'=>e=.returned (.bool true)/\Gl rs z gs gn X (j+1) j W')
 (W:World) (h0:Gl rs z gs gn X 0 0 W):
 CallsIn Fence.wide n prog 194 #[.func (.yield l) #[] #[],.pointer (some ⟨gs,0,none⟩),.pointer (some ⟨gn,0,none⟩)] W λe W'=>(∃v,e=.returned v)/\X rs.length W':=by
 have H0:=zH h0;have HX1:=zH Ug;have HX2:=zH YJ;have HY:=zH hY;have SP:=zH hch;have Vx:∀j,(Sp.frames (rs.drop j)).length<=(Sp.frames rs).length:=λj=>by
  have:Sp.frames rs=Sp.frames (rs.take j)++Sp.frames (rs.drop j):=by rw[<-Sp.jc,zS]
  rw[this,zo];omega
 have UR:=zH Vx;clear h0 Ug YJ hY Vx;refine callsIn_of_wp func194 rfl trivial ?_ rfl;simp only[ntmps194,zV,zP,zap,Nat.reduceAdd,Nat.reduceSub,zac,zab,zan,zae,zaa,zal]
 gi_wp2_with fail
 gi_loopw [] (λwr=>∃j:Nat,j<=rs.length/\Gl rs z gs gn X j j wr) (λwr=>G4 (wr.cell? ⟨gs,0,none⟩))
 case atStart=>exact⟨0,by omega,H0.out⟩
 case round=>
  obtain⟨j,hj,hV⟩:=hrel;clear H0;have c0:=hV.bs.cell 0;have n0:=hV.bn.cell 0;simp only[zGA,zGC] at c0 n0;have hle:=UR.out j;by_cases hlt:j<rs.length
  ·obtain⟨tP,hl2,P6,hl4,Fs⟩:=SP.out.at_ hlt;have VE:=Sp.FM hlt;have hfl:(Sp.frames (rs.drop j)).length=14+rs[j].2.length+(Sp.frames (rs.drop (j+1))).length:=by rw[VE,zo,Sp.bR]
   have TZ:=Sp.mG (z:=z) hlt;have Cl:=zH fun(W:World)=>HY.out j W hlt;obtain⟨nn,hnn⟩:=zE (rs[j].1);obtain⟨t,ht⟩:=zE (rs[j].2);rw[<-ht,<-hnn] at VE;rw[<-ht] at tP hl2 P6 hfl Fs Cl;rw[<-hnn] at P6 hl4 Fs TZ;obtain⟨sj,hsj⟩:=zE (Sp.frames (rs.drop j));obtain⟨sn,sS⟩:=zE (Sp.frames (rs.drop (j+1)));rw[<-hsj] at c0 hfl VE hle;rw[<-sS] at hfl VE;rw[TZ] at n0;have q1:decide ((0:Int)<(sj.length:Int))=true:=by rw[zx];omega
   have q2:0<sj.length:=by omega
   have HDC:=zH ((callsIn_wide (n:=n-1)).2 (Dl (aL:=nn) (t:=t) (z:=sn) wr tP hl2 (by omega) (by omega) (by omega)));rw[<-VE] at HDC;replace hsj:=zH hsj;replace sS:=zH sS;replace VE:=zH VE;replace TZ:=zH TZ;replace P6:=zH P6;replace hfl:=zH hfl;have HV:=zH hV;have hmeas:j+1<=rs.length:=hlt;clear hV ht hnn
   gi_wp2_with fail
   refine⟨trivial,(λh=>nomatch h),HDC.out.mono ?_⟩;rintro e w2 ⟨rfl,hb2⟩;have hV2:Gl rs z gs gn X j j w2:=⟨HX1.out _ _ _ HV.out.x hb2,HV.out.bs.below hb2 HV.out.bs.lt,HV.out.bn.below hb2 HV.out.bn.lt⟩;obtain⟨fn,tmps,assign,body,hy,hR⟩:=Cl.out w2 hV2;clear HDC hb2 hV2 Cl c0 n0
   gi_wp2_with fail
   refine⟨(λh=>nomatch h),hR.mono ?_⟩;rintro e w3 ⟨rfl,hV3⟩;have HV3:=zH hV3;have c0:=hV3.bs.cell 0;have n0:=hV3.bn.cell 0;simp only[zGA,zGC] at c0 n0;rw[<-hsj.out] at c0;rw[TZ.out] at n0;have f0:=hV3.bs.frozen 0;have f1:=hV3.bn.frozen 0;clear hR hy hV3
   gi_wp2_with fail
   rw[wpIn_wide];have Kn:sj.drop (14+t.length)=sn:=by rw[VE.out];exact zav (Sp.bR nn t)
   have hw64:IntKind.u64.wrap ((nn:Int)+(14+(t.length:Int)))=((nn+(14+t.length):Nat):Int):=by rw[IntKind.wrap_u64];omega
   have hcv:IntKind.u64.wrap (14+(t.length:Int))=14+(t.length:Int):=by rw[IntKind.wrap_u64];omega
   have hS:=zH (show w3.drew.cell? ⟨gn,0,none⟩=some (.int .u64 nn) from n0);refine eV (λW=>zC W gn 0 (.int .u64 nn)) (λj=>decide (8<=j)) rfl ?_;refine vo 1 27 hS.out ?_;refine vo 3 29 hS.out ?_;refine vo 4 30 hS.out ?_;refine vo 5 31 hS.out ?_;refine RT 6 32 (v:=.int .u64 ((nn+(14+t.length):Nat):Int)) hS.out ?_ (hy:=by intro w hSw;go_simp);simp only[zSA,zSB,zSC];have c0d:w3.drew.cell? ⟨gs,0,none⟩=some (str sj):=c0;have f0d:w3.drew.frozen? ⟨gs,0,none⟩=false:=f0;refine fe 0 26 (v:=str sj) (w':=w3.drew) rfl (by go_simp) (λ_=>hS.out) ?_;refine fe 2 28 (v:=str sn) (w':=w3.drew) rfl (by go_simp;rw[show((14:Int)+(t.length:Int)).toNat=14+t.length by omega,dw,Kn,zK ⟨by omega,by have:=hfl.out;omega⟩,zX (by have:=hfl.out;omega)]) (λ_=>hS.out) ?_;have hx4:=HX2.out (j+1) w3.drew ⟨gs,0,none⟩ (str sn) (HX1.out _ _ _ HV3.out.x (zR _).drew) (.inl rfl);have hb4:=HV3.out.bs.drew.a_ 0 (str sn);have sW:=HV3.out.bn.drew.far (p:=⟨gs,0,none⟩) (Ne.symm hne) (str sn);rw[TZ.out] at sW;have nW:=zH (show(w3.drew.setCell ⟨gs,0,none⟩ (str sn)).cell? ⟨gn,0,none⟩=some (.int .u64 nn) from sW.cell 0);refine jx 7 (w':=w3.drew.setCell ⟨gs,0,none⟩ (str sn)) rfl (by go_simp) (λ_=>nW.out) ?_;have SA:=HX2.out (j+1) _ ⟨gn,0,none⟩ (.int .u64 ((nn+(14+t.length):Nat):Int)) hx4 (.inr rfl);have cS:=hb4.far (p:=⟨gn,0,none⟩) hne (.int .u64 ((nn+(14+t.length):Nat):Int));have uZ:=sW.a_ 0 (.int .u64 ((nn+(14+t.length):Nat):Int));have n4:=sW.cell 0;have g4:=sW.frozen 0;simp only[zGA,zGC] at n4;refine jx 8 (w':=(w3.drew.setCell ⟨gs,0,none⟩ (str sn)).setCell ⟨gn,0,none⟩ (.int .u64 ((nn+(14+t.length):Nat):Int))) rfl (by go_simp) (λh=>nomatch h) ?_;refine aC (by kernel_rfl) ?_ _;have hx6:Gl rs z gs gn X (j+1) (j+1) ((w3.drew.setCell ⟨gs,0,none⟩ (str sn)).setCell ⟨gn,0,none⟩ (.int .u64 ((nn+(14+t.length):Nat):Int))):=⟨SA,by rw[<-sS.out];exact cS,by rw[P6.out];exact uZ⟩;have hms:G4 (((w3.drew.setCell ⟨gs,0,none⟩ (str sn)).setCell ⟨gn,0,none⟩ (.int .u64 ((nn+(14+t.length):Nat):Int))).cell? ⟨gs,0,none⟩)<G4 (wr.cell? ⟨gs,0,none⟩):=by
    have e1:((w3.drew.setCell ⟨gs,0,none⟩ (str sn)).setCell ⟨gn,0,none⟩ (.int .u64 ((nn+(14+t.length):Nat):Int))).cell? ⟨gs,0,none⟩=some (str sn):=cS.cell 0;have e2:wr.cell? ⟨gs,0,none⟩=some (str sj):=by rw[hsj.out];exact HV.out.bs.cell 0
    rw[e1,e2];show sn.toArray.size<sj.toArray.size;have:=hfl.out;simp only[zV];omega
   have Zp:=zH hx6;clear hx4 hb4 sW nW SA cS uZ n4 g4 hS hx6 c0 n0 f0 f1 c0d f0d HV3
   gi_wp2_with fail
   go_roundw
   case rel=>exact⟨j+1,hmeas,Zp.out⟩
   case measure=>exact hms
  ·obtain rfl:j=rs.length:=by omega
   have HX:=zH hV.x;rw[List.drop_length] at c0;clear hV n0;have e0:(Sp.frames ([]:List (Nat×Sp.Bs))).length=0:=rfl
   gi_wp2_with fail
   go_end0
   exact⟨⟨_,rfl⟩,HX.out⟩
section
open Go.Conc
theorem I9 (s:Sp.Bs) (aL:Nat) (w:World):Calls prog 130 #[str s,.int .u64 aL] w λe w'=>e=.returned (.func (.func 194) #[] #[ptr w.heap.size,ptr (w.heap.size+1)])/\w'=(w.alloc (.cells #[str s] 9)).alloc (.cells #[.int .u64 aL] 24):=by
 go_enter func130,ntmps130;go_wp2_with fail;go_ret;exact⟨rfl,rfl⟩
theorem E3 {g:Operand} {ps:Array Tmp} {assign body:Code} {Q:Exit->Act->World->Prop} {w:World} {gf:Nat} {lb:Array Value}
 (hg:a.eval g=.func (.func gf) #[] lb) (eg:∀args w,(callFunc gf args).run P w=.ok (.enter gf args) w)
 (h:∀(fn:FuncId) (rec:LoopState->Option Code->Loop),(rec=λst pe=>{state:=st,pending:=pe,fn,tmps:=a.tmps,params:=ps,assign,body,defers:=w.heap.size})->
  CallsIn Fence.wide (n-1) P gf (#[.func (.yield (w.heap.size+1)) #[] #[]]++lb) ((w.alloc (.deferred (some []))).alloc (.loop (rec .ready none)))
   (rangePost Fence.wide n P (w.heap.size+1) Q {a with defers:={target:=.collected w.heap.size,args:=#[]}::a.defers})):
 (Code.rangeFunc g ps assign body).wpIn Fence.wide n P Q a w:=by
 refine wpIn_rangeFunc ?_;intro fn _;obtain⟨W1,hW1⟩:∃W1,(w.alloc (.deferred (some []))).alloc (.loop {state:=.ready,pending:=none,fn,tmps:=a.tmps,params:=ps,assign,body,defers:=w.heap.size})=W1:=⟨_,rfl⟩;refine⟨w.heap.size+1,[{target:=.collected w.heap.size,args:=#[]}],W1,{target:=.fn (.func gf) lb,args:=#[.func (.yield (w.heap.size+1)) #[] #[]]},W1,gf,
  #[.func (.yield (w.heap.size+1)) #[] #[]]++lb,W1,?_,?_,λ_ _=>trivial,?_,(λh=>nomatch h),?_⟩
 ·rw[<-hW1];exact run_enterLoop_outer _ _ _ _ _
 ·simp only[resolve,hg];simp[go_sem]
 ·simp[invoke,go_sem,eg]
 ·rw[<-hW1];exact h fn _ rfl
theorem xp {fn:Func} {p q r:Tmp} {t1 t2 t3:TypeId} (h:fn.results=#[.cell p t1,.cell q t2,.cell r t3]) (tmps:Array Value) (P:Program) (w:World):
 (results fn tmps).run P w=
  ((asAddr (tmps.getD p undef)).run P w).andThen λa w₁=>((loadVar t1 a).run P w₁).andThen λx w₂=>
  ((asAddr (tmps.getD q undef)).run P w₂).andThen λb w₃=>((loadVar t2 b).run P w₃).andThen λy w₄=>
  ((asAddr (tmps.getD r undef)).run P w₄).andThen λc w₅=>((loadVar t3 c).run P w₅).andThen λz w₆=>.ok (.tuple #[x,y,z]) w₆:=by
 simp only[results,h];simp[Sem.run_bind,Result.andThen]
theorem ng {w:World} {base base':Nat} (h:w.ownsRow base e sz v n xs) (hb:base'<=base):w.ownsRow base' e sz v n xs:=by
 refine⟨h.1,?_⟩;rcases h.2 with h' | ⟨g,cap,cur,h1,h2,h3⟩
 ·exact .inl h'
 ·exact .inr ⟨g,cap,cur,h1,zl hb h2,h3⟩
theorem Lx:(prog.info? 9).map (λi=>(i.zero,i.size,i.bytes))=some (some (.string .empty),1,16):=by kernel_rfl
def ru (rs:List (Nat×Sp.Bs)):List Value:=rs.map λr=>str r.2
structure ScX (rs:List (Nat×Sp.Bs)) (w0:World) (base g4 g5 g6 D l:Nat) (rec:LoopState->Option Code->Loop) (i:Nat) (W:World):Prop where
 row:∃v,aj W g4 62 #[v]/\W.ownsRow base 9 1 v i (ru (rs.take i))
 used:aj W g5 3 #[.int .i64 ((Sp.frames (rs.take i)).length:Nat)]
 err:aj W g6 47 #[.int .i64 0]
 L:W.heap[l]? =some (.loop (rec .ready none))
 D_:W.heap[D]? =some (.deferred (some []))
 below:zB w0 W
 big:base<=W.heap.size
def JN (rs:List (Nat×Sp.Bs)) (w:World) (e:Ending) (w':World):Prop:=
 ∃v,e=.returned (.tuple #[v,.int .i64 ((Sp.frames rs).length:Nat),.int .i64 0])/\w'.ownsRow w.heap.size 9 1 v rs.length (ru rs)/\zB w w'
theorem Ja {rs:List (Nat×Sp.Bs)} {a:Nat} (hch:Sp.dD a rs z) (ha:1<=a) (hz:z<4611686018427387904) (htot:(Sp.frames rs).length<=900000) (w:World):
 Calls prog 62 #[str (Sp.frames rs),.int .u64 a] w (JN rs w):=by
 have SP:=zH hch;have HVA:=zH fun(W:World)=>I9 (Sp.frames rs) a W;have hrl:rs.length<=900000:=by
  have key:∀(l:List (Nat×Sp.Bs)),l.length<=(Sp.frames l).length:=λl=>by
   induction l with
   | nil=>simp
   | cons x l ih=>rw[Sp.iq,zo,Sp.bR,zP];omega
  exact zl (key rs) htot
 refine(callsIn_wide (n:=5)).1 ?_;refine callsIn_of_wp_marks func62 rfl trivial ?_ rfl;rw[wpIn_wide];simp only[ntmps62,zV,zP,zap,Nat.reduceAdd,Nat.reduceSub,zac,zab,zan,zae,zaa,zal];go_wp2_with fail;have a4:=((aj.new w 62 #[.slice none 0 0]).alloc (.cells #[.int .i64 0] 3)).alloc (.cells #[.int .i64 0] 47);have a5:=(aj.new (w.alloc (.cells #[.slice none 0 0] 62)) 3 #[.int .i64 0]).alloc (.cells #[.int .i64 0] 47);have a6:=aj.new ((w.alloc (.cells #[.slice none 0 0] 62)).alloc (.cells #[.int .i64 0] 3)) 47 #[.int .i64 0];rw[World.size_alloc] at a5;rw[World.size_alloc,World.size_alloc] at a6;have hb1:zB w (((w.alloc (.cells #[.slice none 0 0] 62)).alloc (.cells #[.int .i64 0] 3)).alloc (.cells #[.int .i64 0] 47)):=(((zR w).alloc (za _) _).alloc (by simp) _).alloc (by simp;omega) _;generalize hw1:World.alloc (World.alloc (World.alloc w _) _) _=w1 at a4 a5 a6 hb1 ⊢;clear hw1;refine(HVA.out w1).mono ?_;rintro e w2 ⟨rfl,rfl⟩;go_wp2_with fail;rw[<-wpIn_wide (n:=5)];have kX:=(aj.new w1 9 #[str (Sp.frames rs)]).alloc (.cells #[.int .u64 (a:Nat)] 24);have an:=aj.new (w1.alloc (.cells #[str (Sp.frames rs)] 9)) 24 #[.int .u64 (a:Nat)];rw[World.size_alloc] at an;have hb2:zB w1 ((w1.alloc (.cells #[str (Sp.frames rs)] 9)).alloc (.cells #[.int .u64 (a:Nat)] 24)):=((zR w1).alloc (za _) _).alloc (by simp) _;replace a4:=a4.below hb2 a4.lt;replace a5:=a5.below hb2 a5.lt;have hl6:=a6.lt;replace a6:=a6.below hb2 a6.lt;replace hb1:=hb1.trans (hb2.mono hb1.size);generalize hw2:World.alloc (World.alloc w1 _) _=w2 at kX an a4 a5 a6 hb1 ⊢;clear hw2 hb2;obtain⟨g4,hg4⟩:=zE w.heap.size;obtain⟨g5,jm⟩:=zE (w.heap.size+1);obtain⟨g6,qu⟩:=zE (w.heap.size+1+1);obtain⟨gs,Qa⟩:=zE w1.heap.size;obtain⟨gn,hgn⟩:=zE (w1.heap.size+1);rw[<-qu] at a6 ⊢;rw[<-jm] at a5 ⊢;rw[<-hg4] at a4 ⊢;rw[<-hgn] at an ⊢;rw[<-Qa] at kX ⊢;have l2:=an.lt;refine E3 (gf:=194) (lb:=#[ptr gs,ptr gn]) rfl (enters_of func194 (by kernel_rfl) rfl) ?_;intro fn rec Iz;have JG:=zH Iz;clear Iz;have hb3:=((zR w2).alloc (za _) (.deferred (some []))).alloc (by simp) (.loop (rec .ready none));have hLr:((w2.alloc (.deferred (some []))).alloc (.loop (rec .ready none))).heap[w2.heap.size+1]? =some (.loop (rec .ready none)):=by
  have:=World.alloc_heap_new (w2.alloc (.deferred (some []))) (.loop (rec .ready none));rwa [World.size_alloc] at this
 have hDr:((w2.alloc (.deferred (some []))).alloc (.loop (rec .ready none))).heap[w2.heap.size]? =some (.deferred (some [])):=(Below.heap_alloc _ _ _ (by simp)).trans (World.alloc_heap_new w2 _);replace a4:=a4.below hb3 a4.lt;replace a5:=a5.below hb3 a5.lt;replace a6:=a6.below hb3 a6.lt;replace kX:=kX.below hb3 kX.lt;replace an:=an.below hb3 an.lt;have hbW:=hb1.trans (hb3.mono hb1.size);have hsW:((w2.alloc (.deferred (some []))).alloc (.loop (rec .ready none))).heap.size=w2.heap.size+2:=by simp
 generalize hW1:World.alloc (World.alloc w2 _) _=W1 at hLr hDr a4 a5 a6 kX an hbW hsW ⊢;obtain⟨D,hD⟩:=zE w2.heap.size;obtain⟨l,hl⟩:=zE (w2.heap.size+1);rw[<-hl] at hLr ⊢;rw[<-hD] at hDr ⊢;have hord:w.heap.size<=g4/\g4<g5/\g5<g6/\g6<gs/\gs<gn/\gn<D/\D<l/\l<W1.heap.size:=⟨by omega,by omega,by omega,by omega,by omega,by omega,by omega,by omega⟩;have hne:gs≠gn:=by omega
 have ZA:=zH hord;clear hW1 hb3 hb1 hg4 jm qu Qa hgn hD hl l2 hl6 hsW hord;obtain⟨base,hbase⟩:=zE W1.heap.size;have hX0:ScX rs w base g4 g5 g6 D l rec 0 W1:=⟨⟨_,a4,World.ownsRow_nil _ _ _ _⟩,a5,a6,hLr,hDr,hbW,by omega⟩;have hF0:Gl rs z gs gn (ScX rs w base g4 g5 g6 D l rec) 0 0 W1:=⟨hX0,kX,by
  have e:Sp.fU rs z 0=a:=by
   have:=SP.out
   cases rs with
   | nil=>rw[Sp.uf (by simp)];exact this.symm
   | cons r rs=>rw[Sp.mG (by simp)];exact this.1
  rw[e];exact an⟩
 have Sn:=zH hbase;clear a4 a5 a6 hLr hDr hbW kX an hX0 hbase;show CallsIn _ _ _ _ #[.func (.yield l) #[] #[],ptr gs,ptr gn] _ _;refine(Ux hch ha hz htot gs gn l 4 hne (ScX rs w base g4 g5 g6 D l rec) ?Ug ?YJ ?hY W1 hF0).mono ?post
 case Ug=>
  rintro i W W' ⟨⟨v,h1,h2⟩,h3,h4,h5,h6,h7,h8⟩ hb;exact⟨⟨v,h1.below hb h1.lt,cq h2 hb⟩,h3.below hb h3.lt,h4.below hb h4.lt,(hb.block l (zm.1 h5).1).trans h5,(hb.block D (zm.1 h6).1).trans h6,h7.trans (hb.mono h7.size),zl h8 hb.size⟩
 case YJ=>
  rintro i W p v0 ⟨⟨v,h1,h2⟩,h3,h4,h5,h6,h7,h8⟩ hp;obtain⟨o1,o2,o3,o4,o5,o6,o7,o8⟩:=ZA.out;have hB:=Sn.out;have hpb:gs<=p.block/\p.block<=gn:=by rcases hp with e | e<;>omega
  exact⟨⟨v,h1.far (by omega) v0,aN h2 (λb hb=>Below.heap_setCell _ _ _ b (by have:=(h2.lt b hb).1;omega))⟩,h3.far (by omega) v0,h4.far (by omega) v0,(Below.heap_setCell _ _ _ l (by omega)).trans h5,(Below.heap_setCell _ _ _ D (by omega)).trans h6,h7.setCell (by omega) v0,by simpa[World.setCell] using h8⟩
 case hY=>
  intro j W hj hV;obtain⟨hX,vg,Aa⟩:=hV;obtain⟨tP,hl2,-,-,-⟩:=SP.out.at_ hj;have htk:(Sp.frames (rs.take (j+1))).length=(Sp.frames (rs.take j)).length+(14+rs[j].2.length):=by
   rw[zg hj,Sp.jc,zo];have:(Sp.frames [rs[j]]).length=14+rs[j].2.length:=by rw[Sp.iq,zo,Sp.bR];simp[Sp.frames]
   rw[this]
  have NG:ru (rs.take (j+1))=ru (rs.take j)++[str rs[j].2]:=by
   unfold ru;rw[zg hj,zI];rfl
  have Gv:(Sp.frames (rs.take j)).length<=900000:=by
   have:Sp.frames rs=Sp.frames (rs.take j)++Sp.frames (rs.drop j):=by rw[<-Sp.jc,zS]
   rw[this,zo] at htot;omega
  have uG:=zH htk;have Nk:=zH NG;obtain⟨t,ht⟩:=zE (rs[j].2);rw[<-ht] at uG Nk tP hl2 ⊢;clear htk NG ht;have hy:=run_yield (P:=prog) (args:=#[str t,.int .i64 0]) hX.L (by rw[JG.out];rfl);rw[JG.out] at hy;dsimp only at hy;refine⟨_,_,_,_,hy,roundIn_of_wpIn trivial ?_⟩;clear hy;simp only[List.zip_toArray,List.zip_cons_cons,List.zip_nil_right,List.foldl_toArray,zbh,List.foldl_nil,zSA,zSB,zSC]
  gi_wp2_with (rw[Oper.semAt_eq _ _ _ (λc h=>by cases h)];go_simp;try go_bits)
  refine⟨_,run_beginRound hX.L (by rw[JG.out]),?_⟩;obtain⟨o1,o2,o3,o4,o5,o6,o7,o8⟩:=ZA.out;have hB:=Sn.out;obtain⟨⟨v,x1,x2⟩,x3,x4,x5,x6,x7,x8⟩:=hX;have AL:=(zm.1 x5).1;have k4:=x1.keep (World.putObj_heap_other (w:=W) (o:=.loop {rec .ready none with state:=.busy}) (show g4≠l by omega));have k5:=x3.keep (World.putObj_heap_other (w:=W) (o:=.loop {rec .ready none with state:=.busy}) (show g5≠l by omega));have k6:=x4.keep (World.putObj_heap_other (w:=W) (o:=.loop {rec .ready none with state:=.busy}) (show g6≠l by omega));have ks:=vg.keep (World.putObj_heap_other (w:=W) (o:=.loop {rec .ready none with state:=.busy}) (show gs≠l by omega));have kn:=Aa.keep (World.putObj_heap_other (w:=W) (o:=.loop {rec .ready none with state:=.busy}) (show gn≠l by omega));have kD:=(World.putObj_heap_other (w:=W) (o:=.loop {rec .ready none with state:=.busy}) (show D≠l by omega)).trans x6;have kL:(W.putObj l (.loop {rec .ready none with state:=.busy})).heap[l]? =some (.loop (rec .busy none)):=by rw[World.putObj_heap_same AL,JG.out]
  have kR:=aN (w':=W.putObj l (.loop {rec .ready none with state:=.busy})) x2 (λb hb=>World.putObj_heap_other (by have:=(x2.lt b hb).1;omega));have kB:zB w (W.putObj l (.loop {rec .ready none with state:=.busy})):=x7.trans ⟨rfl,rfl,rfl,by simp,λb hb=>World.putObj_heap_other (by omega)⟩;have hzl:base<=(W.putObj l (.loop {rec .ready none with state:=.busy})).heap.size:=by simpa using x8
  generalize hw3:World.putObj W l _=W3 at k4 k5 k6 ks kn kD kL kR kB hzl ⊢;clear hw3 x1 x2 x3 x4 x5 x6 x7 AL vg Aa;have c4:=k4.cell 0;have f4:=k4.frozen 0;simp only[zGA,zGC] at c4;obtain⟨A0,n0,c0,rfl⟩:∃A m c,v=.slice A m c:=by
   rcases kR.2 with⟨h0,_⟩ | ⟨g6,c6,_,h0,_⟩
   ·exact⟨_,_,_,h0⟩
   ·exact⟨_,_,_,h0⟩
  obtain⟨ip,Km,oK,hp1,sU⟩:=info_parts Lx;have hO:=aj.new W3 9 ([str t]:List Value).toArray;have GN:=zH (e8 (cs:=[str t]) hO);clear hO
  gi_wp2_with (first
   | (gi_at_builtin;refine wpListIn_append_own _ rfl _ _ 62 rfl base 9 ip (.string .empty) 1 16 underlying62 Km oK hp1 sU rfl (by decide) (.slice A0 n0 c0) j _ rfl (kR.alloc _) ⟨W3.heap.size,0,none⟩ 1 1 [str t] rfl rfl GN.out (by simp[Value.oneCell']) (by unfold maxLen;omega) (by omega) (by simp;omega) ?_
      intro v7 w7 r1 r2 r3;obtain⟨A7,n7,c7,rfl⟩:∃A m c,v7=.slice A m c:=by
       rcases r1.2 with⟨h0,_⟩ | ⟨g6,c6,_,h0,_⟩
       ·exact⟨_,_,_,h0⟩
       ·exact⟨_,_,_,h0⟩
      have fu:=(k4.alloc (.cells ([str t]:List Value).toArray 9)).grown r2 (λe=>by have:=(kR.lt g4 e.symm).1;omega);have p7:=fu.cell 0;have f7:=fu.frozen 0;simp only[zGA,zGC] at p7
      go_frame)
   | (rw[Oper.semAt_eq _ _ _ (λc h=>by cases h)];go_simp;try go_bits))
  have hown:(Value.slice A0 n0 c0).ownBlock≠some g5/\(Value.slice A0 n0 c0).ownBlock≠some g6/\(Value.slice A0 n0 c0).ownBlock≠some gs/\(Value.slice A0 n0 c0).ownBlock≠some gn/\(Value.slice A0 n0 c0).ownBlock≠some D/\(Value.slice A0 n0 c0).ownBlock≠some l:=
   ⟨λe=>by have:=(kR.lt _ e).1;omega,λe=>by have:=(kR.lt _ e).1;omega,λe=>by have:=(kR.lt _ e).1;omega,λe=>by have:=(kR.lt _ e).1;omega,λe=>by have:=(kR.lt _ e).1;omega,λe=>by have:=(kR.lt _ e).1;omega⟩
  have Xp:=r2.size;have iW:=fu.a_ 0 (.slice A7 n7 c7);have m5:=((k5.alloc (.cells ([str t]:List Value).toArray 9)).grown r2 (λe=>hown.1 e.symm)).far (p:=⟨g4,0,none⟩) (show g5≠g4 by omega) (.slice A7 n7 c7);have m6:=((k6.alloc (.cells ([str t]:List Value).toArray 9)).grown r2 (λe=>hown.2.1 e.symm)).far (p:=⟨g4,0,none⟩) (show g6≠g4 by omega) (.slice A7 n7 c7);have ms:=((ks.alloc (.cells ([str t]:List Value).toArray 9)).grown r2 (λe=>hown.2.2.1 e.symm)).far (p:=⟨g4,0,none⟩) (show gs≠g4 by omega) (.slice A7 n7 c7);have mn:=((kn.alloc (.cells ([str t]:List Value).toArray 9)).grown r2 (λe=>hown.2.2.2.1 e.symm)).far (p:=⟨g4,0,none⟩) (show gn≠g4 by omega) (.slice A7 n7 c7);have hDl:D<W3.heap.size:=(zm.1 kD).1;have hLl:l<W3.heap.size:=(zm.1 kL).1;have mD:=(Below.heap_setCell w7 ⟨g4,0,none⟩ (.slice A7 n7 c7) D (show D≠g4 by omega)).trans ((r2.block D (by simp;omega) (λe=>hown.2.2.2.2.1 e.symm)).trans ((Below.heap_alloc _ _ D hDl).trans kD));have mL:=(Below.heap_setCell w7 ⟨g4,0,none⟩ (.slice A7 n7 c7) l (show l≠g4 by omega)).trans ((r2.block l (by simp;omega) (λe=>hown.2.2.2.2.2 e.symm)).trans ((Below.heap_alloc _ _ l hLl).trans kL));have mR:=aN (w':=w7.setCell ⟨g4,0,none⟩ (.slice A7 n7 c7)) r1 (λb hb=>Below.heap_setCell w7 _ _ b (λe=>by have e:b=g4:=e;have:=(r1.lt b hb).1;omega));have mB:=((kB.alloc kB.size (.cells ([str t]:List Value).toArray 9)).grown r2 (by have:=kB.size;simp;omega) (λb e=>by have:=(kR.lt b e).1;have:=kB.size;omega)).setCell (p:=⟨g4,0,none⟩) (show w.heap.size<=g4 by omega) (.slice A7 n7 c7);have hz8:(w7.setCell ⟨g4,0,none⟩ (.slice A7 n7 c7)).heap.size=w7.heap.size:=by simp[World.setCell]
  simp only[World.size_alloc] at Xp;have hzl8:base<=w7.heap.size:=by omega
  clear k4 k5 k6 ks kn kD kL kR kB c4 f4 p7 f7 fu r1 r2 r3 GN hown hDl hLl hzl;generalize w7.setCell ⟨g4,0,none⟩ (.slice A7 n7 c7)=W8 at iW m5 m6 ms mn mD mL mR mB hz8 ⊢;have c5:=m5.cell 0;have f5:=m5.frozen 0;simp only[zGA,zGC] at c5;have R8:=zH fun(W:World)=>(callsIn_wide (n:=2)).2 (kM t.length W (by omega));have hif:(if 1<=t.length/\t.length<=4096 then 14+t.length else 0:Nat)=14+t.length:=zK ⟨tP,hl2⟩;rw[hif] at R8;obtain⟨W9,VN⟩:=zE ((W8.setCell ⟨g5,0,none⟩ (.int .i64 (((Sp.frames (rs.take j)).length:Int)+(14+(t.length:Int))))).drew);have p4:=(iW.far (p:=⟨g5,0,none⟩) (show g4≠g5 by omega) (.int .i64 (((Sp.frames (rs.take j)).length:Int)+(14+(t.length:Int))))).drew;have p5:=(m5.a_ 0 (.int .i64 (((Sp.frames (rs.take j)).length:Int)+(14+(t.length:Int))))).drew;have p6:=(m6.far (p:=⟨g5,0,none⟩) (show g6≠g5 by omega) (.int .i64 (((Sp.frames (rs.take j)).length:Int)+(14+(t.length:Int))))).drew;have ps:=(ms.far (p:=⟨g5,0,none⟩) (show gs≠g5 by omega) (.int .i64 (((Sp.frames (rs.take j)).length:Int)+(14+(t.length:Int))))).drew;have pn:=(mn.far (p:=⟨g5,0,none⟩) (show gn≠g5 by omega) (.int .i64 (((Sp.frames (rs.take j)).length:Int)+(14+(t.length:Int))))).drew;have pD:W9.heap[D]? =some (.deferred (some [])):=by rw[VN];exact(Below.heap_setCell W8 ⟨g5,0,none⟩ _ D (show D≠g5 by omega)).trans mD
  have pL:W9.heap[l]? =some (.loop (rec .busy none)):=by rw[VN];exact(Below.heap_setCell W8 ⟨g5,0,none⟩ _ l (show l≠g5 by omega)).trans mL
  have pR:=aN (w':=W9) mR (λb hb=>by rw[VN];exact Below.heap_setCell W8 ⟨g5,0,none⟩ _ b (λe=>by have e:b=g5:=e;have:=(mR.lt b hb).1;omega));have pz:base<=W9.heap.size:=by rw[VN];show base<=(W8.setCell _ _).heap.size;simp[World.setCell];omega
  have pB:=(mB.setCell (p:=⟨g5,0,none⟩) (show w.heap.size<=g5 by omega) (.int .i64 (((Sp.frames (rs.take j)).length:Int)+(14+(t.length:Int))))).drew;rw[<-VN] at p4 p5 p6 ps pn pB;have AL:=(zm.1 pL).1;have e1:({rec .busy none with state:=if(none:Option Code).isNone=true then .ready else .done,pending:=none}:Loop)=rec .ready none:=by rw[JG.out];rfl
  have hFIN:Gl rs z gs gn (ScX rs w base g4 g5 g6 D l rec) (j+1) j (W9.putObj l (.loop (rec .ready none))):=by
   refine⟨⟨⟨_,p4.keep (World.putObj_heap_other (show g4≠l by omega)),?_⟩,?_,p6.keep (World.putObj_heap_other (show g6≠l by omega)),World.putObj_heap_same AL,(World.putObj_heap_other (show D≠l by omega)).trans pD,pB.trans ⟨rfl,rfl,rfl,by simp,λb hb=>World.putObj_heap_other (by omega)⟩,by simp;omega⟩,ps.keep (World.putObj_heap_other (show gs≠l by omega)),pn.keep (World.putObj_heap_other (show gn≠l by omega))⟩
   ·rw[Nk.out];exact aN pR (λb hb=>World.putObj_heap_other (by have:=(pR.lt b hb).1;omega))
   ·have:=p5.keep (w':=W9.putObj l (.loop (rec .ready none))) (World.putObj_heap_other (show g5≠l by omega));simp only[zSA,zSB] at this;rw[show(((Sp.frames (rs.take j)).length:Int)+(14+(t.length:Int)))=((Sp.frames (rs.take (j+1))).length:Nat) by rw[uG.out];omega] at this;exact this
  have hER:=run_endRound (P:=prog) none pL;rw[e1] at hER;have qy:=zH hFIN;have HER:=zH hER;replace VN:=zH VN;clear p4 p5 p6 ps pn pD pL pR pB iW m6 ms mn mD mL mR mB hFIN hER e1 AL
  gi_region_with (first | (refine⟨trivial,(CallsIn.inRound l (R8.out _)).mono ?_⟩;rintro e w9 ⟨rfl,rfl⟩) | (rw[Oper.semAt_eq _ _ _ (λc h=>by cases h)];go_simp;try go_bits))
  all_goals
   rw[<-VN.out];exact⟨_,_,HER.out,rfl,qy.out⟩
 case post=>
  rintro e W' ⟨⟨v,rfl⟩,hX⟩;have hn:(rec .ready none).pending=none:=by rw[JG.out]
  have he:=run_endLoop (P:=prog) hX.L (by rw[JG.out];simp);refine⟨_,_,he,?_⟩;obtain⟨o1,o2,o3,o4,o5,o6,o7,o8⟩:=ZA.out;have hB:=Sn.out;obtain⟨⟨v,x1,x2⟩,x3,x4,x5,x6,x7,x8⟩:=hX;have k4:=x1.keep (World.putObj_heap_other (w:=W') (o:=.loop {rec .ready none with state:=.exhausted}) (show g4≠l by omega));have k5:=x3.keep (World.putObj_heap_other (w:=W') (o:=.loop {rec .ready none with state:=.exhausted}) (show g5≠l by omega));have k6:=x4.keep (World.putObj_heap_other (w:=W') (o:=.loop {rec .ready none with state:=.exhausted}) (show g6≠l by omega));have kD:=(World.putObj_heap_other (w:=W') (o:=.loop {rec .ready none with state:=.exhausted}) (show D≠l by omega)).trans x6;have kR:=aN (w':=W'.putObj l (.loop {rec .ready none with state:=.exhausted})) x2 (λb hb=>World.putObj_heap_other (by have:=(x2.lt b hb).1;omega));have kB:zB w (W'.putObj l (.loop {rec .ready none with state:=.exhausted})):=x7.trans ⟨rfl,rfl,rfl,by simp,λb hb=>World.putObj_heap_other (by omega)⟩;generalize hw4:World.putObj W' l _=W4 at k4 k5 k6 kD kR kB ⊢;rw[hn];clear he hn hw4 x1 x2 x3 x4 x5 x6 x7 x8;rw[zL] at k5 kR;obtain⟨A0,n0,c0,rfl⟩:∃A m c,v=.slice A m c:=by
   rcases kR.2 with⟨h0,_⟩ | ⟨g6,c6,_,h0,_⟩
   ·exact⟨_,_,_,h0⟩
   ·exact⟨_,_,_,h0⟩
  have p4:=k4.cell 0;have p5:=k5.cell 0;have p6:=k6.cell 0;have f4:=k4.frozen 0;have f5:=k5.frozen 0;have f6:=k6.frozen 0;simp only[zGA,zGC] at p4 p5 p6;have q4:=(((k4.a_ 0 (.slice A0 n0 c0)).far (p:=⟨g5,0,none⟩) (show g4≠g5 by omega) (.int .i64 (((Sp.frames rs).length:Nat):Int))).far (p:=⟨g6,0,none⟩) (show g4≠g6 by omega) (.int .i64 0)).drew;have q5:=(((k5.far (p:=⟨g4,0,none⟩) (show g5≠g4 by omega) (.slice A0 n0 c0)).a_ 0 (.int .i64 (((Sp.frames rs).length:Nat):Int))).far (p:=⟨g6,0,none⟩) (show g5≠g6 by omega) (.int .i64 0)).drew;have q6:=(((k6.far (p:=⟨g4,0,none⟩) (show g6≠g4 by omega) (.slice A0 n0 c0)).far (p:=⟨g5,0,none⟩) (show g6≠g5 by omega) (.int .i64 (((Sp.frames rs).length:Nat):Int))).a_ 0 (.int .i64 0)).drew;simp only[zSA,zSB] at q4 q5 q6;have qk:∀b,b≠g4->b≠g5->b≠g6->(((W4.setCell ⟨g4,0,none⟩ (.slice A0 n0 c0)).setCell ⟨g5,0,none⟩ (.int .i64 (((Sp.frames rs).length:Nat):Int))).setCell ⟨g6,0,none⟩ (.int .i64 0)).drew.heap[b]? =W4.heap[b]? :=λb b4 b5 b6=>
   (Below.heap_setCell _ _ _ b b6).trans ((Below.heap_setCell _ _ _ b b5).trans (Below.heap_setCell _ _ _ b b4))
  have qD:=(qk D (by omega) (by omega) (by omega)).trans kD;have qR:=aN kR (λb hb=>qk b (by have:=(kR.lt b hb).1;omega) (by have:=(kR.lt b hb).1;omega) (by have:=(kR.lt b hb).1;omega));have qB:=(((kB.setCell (p:=⟨g4,0,none⟩) (show w.heap.size<=g4 by omega) (.slice A0 n0 c0)).setCell (p:=⟨g5,0,none⟩) (show w.heap.size<=g5 by omega) (.int .i64 (((Sp.frames rs).length:Nat):Int))).setCell (p:=⟨g6,0,none⟩) (show w.heap.size<=g6 by omega) (.int .i64 0)).drew;have Q4:=zH q4;have Q5:=zH q5;have Q6:=zH q6;have QD:=zH qD;have QR:=zH qR;have QB:=zH qB;clear q4 q5 q6 qk qD qR qB;go_wp2_with fail
  go_region
  go_wp2_with fail;obtain⟨W5,hW5⟩:=zE ((((W4.setCell ⟨g4,0,none⟩ (.slice A0 n0 c0)).setCell ⟨g5,0,none⟩ (.int .i64 (((Sp.frames rs).length:Nat):Int))).setCell ⟨g6,0,none⟩ (.int .i64 0)).drew);rw[<-hW5] at Q4 Q5 Q6 QD QR QB ⊢;clear hW5;refine⟨by simp,.inl ⟨D,_,rfl,run_takeDeferred QD.out,?_⟩⟩;have z4:=Q4.out.keep (w':=W5.putObj D (.deferred none)) (World.putObj_heap_other (show g4≠D by omega));have z5:=Q5.out.keep (w':=W5.putObj D (.deferred none)) (World.putObj_heap_other (show g5≠D by omega));have z6:=Q6.out.keep (w':=W5.putObj D (.deferred none)) (World.putObj_heap_other (show g6≠D by omega));have e4:=z4.cell 0;have e5:=z5.cell 0;have e6:=z6.cell 0;simp only[zGA,zGC] at e4 e5 e6;refine⟨.tuple #[.slice A0 n0 c0,.int .i64 (((Sp.frames rs).length:Nat):Int),.int .i64 0],?_,_,rfl,?_,QB.out.trans ⟨rfl,rfl,rfl,by simp,λb hb=>World.putObj_heap_other (by omega)⟩⟩
  ·rw[xp rfl];go_simp
  ·have hr:=aN (w':=W5.putObj D (.deferred none)) QR.out (λb hb=>World.putObj_heap_other (by have:=(QR.out.lt b hb).1;omega));exact ng hr (by omega)
end
section
open Go.Sort
theorem CB (x:Nat) (w:World):Calls prog 152 #[bU x] w λe w'=>e=.returned (.bool false)/\w'=w:=by
 go_enter func152,ntmps152;go_wp2_with fail;go_ret;exact⟨by simp,rfl⟩
def wJ (q:List Nat) (n i:Nat):Prop:=i<=q.length/\(∀k,k<i->q[k]! <n)/\(∀k,i<=k->k<q.length->n<=q[k]!)
def jL (q:List Nat) (n i:Nat):Bool:=decide (i<q.length/\q[i]! =n)
theorem wJ.found (h:wJ q n i) (hs:q.Pairwise (· < ·)) (hj:j<q.length) (e:q[j]=n):i=j:=by
 obtain⟨h1,h2,h3⟩:=h;rcases Nat.lt_trichotomy i j with hl | hl | hl
 ·have h4:=h3 i (za _) (by omega);rw[zG q i (by omega)] at h4;have h5:=(za8.1 hs) i j (by omega) hj hl;omega
 ·exact hl
 ·have h4:=h2 j hl;rw[zG q j hj] at h4;omega
theorem rz {G:af} {w:World} (hR:Reads G w 1 A q.length (oa q)) (hs:q.Pairwise (· < ·)) (hl:q.length<1000000000):
 Calls prog 84 #[.slice A q.length c,bU n] w λe w'=>∃i,wJ q n i/\e=.returned (.tuple #[.int .i64 i,.bool (jL q n i)])/\zB w w':=by
 have HR:=zH hR;have HL:=zH fun(x:Nat) (W:World)=>tA x n W;have HN:=zH fun(x:Nat) (W:World)=>CB x W;have HS:=zH hs;clear hR hs;go_enter func84,ntmps84;go_wp2_with fail;go_loopw [7,8] (λv7 v8 wr=>∃i j:Nat,i<=j/\j<=q.length/\v7=.int .i64 i/\v8=.int .i64 j/\(∀k,k<i->q[k]! <n)/\(∀k,j<=k->k<q.length->n<=q[k]!)/\zB w wr) (λv7 v8 _=>(intOf v8).toNat-(intOf v7).toNat)
 case atStart=>exact⟨0,q.length,by omega,by omega,rfl,rfl,λk hk=>by omega,λk h1 h2=>by omega,Below.refl _ _⟩
 case round=>
  obtain⟨i,j,hij,hj,rfl,rfl,hlo,hhi,hbr⟩:=hrel;by_cases hlt:i<j
  ·have hk1:i<=(i+j)/2/\(i+j)/2<j:=by omega
   have hk2:(i+j)/2<q.length:=by omega
   obtain⟨b,o,u,rfl,_,_,hu,hcell⟩:=(Reads.below HR.out hbr).at_ hk2;have My:q[(i+j)/2]? =some q[(i+j)/2]! :=by rw[zG q _ hk2];exact zk hk2
   unfold oa at hu;rw[zN,My] at hu;injection hu with hu;subst hu;have hmono:∀a b,a<=b->b<q.length->q[a]! <=q[b]! :=λa b h1 h2=>by
    rw[zG q a (by omega),zG q b h2];rcases za4 a b with h | h
    ·exact Nat.le_of_lt ((za8.1 HS.out) a b (by omega) h2 h)
    ·have:a=b:=by omega
     subst this;exact za _
   have We:=zH hmono;have HLO:=zH hlo;have ZO:=zH hhi;have HQ:=zH (show q[(i+j)/2]! =q[(i+j)/2]! from rfl);obtain⟨x,hx⟩:=zE (q[(i+j)/2]!);rw[<-hx] at hcell;have HX:=zH hx;clear My hmono hlo hhi HQ hx;go_wp2_with fail;refine(HL.out x wr).mono ?_;rintro e w1 ⟨rfl,hw1⟩;subst w1;by_cases TI:x<n
   ·have hd:decide (x<n)=true:=by rw[zA];exact TI
    have Zo:=zH TI;go_wp2_with fail;go_roundw
    case rel=>exact⟨(i+j)/2+1,j,by omega,hj,by go_num,rfl,λk hk=>by
     rcases za4 k i with h | h
     ·exact HLO.out k h
     ·have:=We.out k ((i+j)/2) (by omega) (by omega);have h2:=HX.out;have h3:=Zo.out;omega,ZO.out,hbr⟩
    case measure=>simp[intOf];omega
   ·have hd:decide (x<n)=false:=by rw[ze];exact TI
    have Zo:=zH TI;go_wp2_with fail;go_roundw
    case rel=>exact⟨i,(i+j)/2,by omega,by omega,rfl,by go_num,HLO.out,λk h1 h2=>by
     have:=We.out ((i+j)/2) k h1 h2;have h3:=HX.out;have h4:=Zo.out;omega,hbr⟩
    case measure=>simp[intOf];omega
  ·obtain rfl:i=j:=by omega
   have HP:=zH (show wJ q n i from⟨hj,hlo,hhi⟩);have HB:=zH hbr;by_cases hil:i<q.length
   ·obtain⟨b,o,u,rfl,_,_,hu,hcell⟩:=(Reads.below HR.out hbr).at_ hil;have My:q[i]? =some q[i]! :=by rw[zG q _ hil];exact zk hil
    unfold oa at hu;rw[zN,My] at hu;injection hu with hu;subst hu;obtain⟨x,hx⟩:=zE (q[i]!);rw[<-hx] at hcell;have HX:=zH hx;clear My hx hlo hhi hbr;by_cases TI:x=n
    ·have Zo:=zH TI;have q1:((x:Int)==(n:Int))=true:=by simp[TI]
     clear TI;go_wp2_with fail
     go_ret2
     refine⟨i,HP.out,?_,HB.out⟩;have hd:jL q n i=true:=zbg ⟨hil,by rw[<-HX.out];exact Zo.out⟩;rw[hd];rfl
    ·have Zo:=zH TI;have q1:((x:Int)==(n:Int))=false:=by simp;omega
     go_wp2_with fail;refine(HN.out x wr).mono ?_;rintro e w1 ⟨rfl,hw1⟩;subst w1;go_wp2_with fail
     go_ret2
     refine⟨i,HP.out,?_,HB.out⟩;have hd:jL q n i=false:=zay (λh=>Zo.out (by rw[HX.out];exact h.2));rw[hd];rfl
   ·clear hlo hhi hbr;go_wp2_with fail
    go_ret2
    refine⟨i,HP.out,?_,HB.out⟩;have hd:jL q n i=false:=zay (λh=>hil h.1);rw[hd];rfl
section
variable {F:af} {w:World} {gl gd:Nat} {l:Sp.Lg}
theorem xU (h:dP F w gl gd l) (hk:k∈l.starts\/k=l.next):
 Calls prog 125 #[ptr gl,.int .u64 k] w λe w'=>e=.returned (.bool true)/\zB w w':=by
 obtain⟨h1,bv,sv,h3,h4,h5,h6⟩:=h;obtain⟨c0,c1,c2,c3,c4,c5,c6,c7,c8,c9⟩:=h3.lg;have jb:=h1.few;have hroom:=h1.room;have sW:=h1.J6;obtain⟨A,c,rfl,hR⟩:=rB h5;have HS:=zH (rz (c:=c) (n:=k) hR h1.Ai (by omega));have kW:=h3.lt;have H3:=zH h3;have UM:=zH h1.Ai;have HST:=zH h1.starts;clear c0 c1 c2 c3 c4 c6 c7 c8 c9 h4 h5 h6 hR h3;go_enter func125,ntmps125;go_wp2_with fail;refine HS.out.mono ?_;rintro e w1 ⟨i,hp,rfl,hb⟩;have c7:=(H3.out.below hb kW).lg.2.2.2.2.2.2.2.1;have HB:=zH hb;clear hb HS;by_cases hs:k∈l.starts
 ·have Qg:jL l.starts k i=true:=by
   obtain⟨j,hj,e⟩:=List.getElem_of_mem hs;obtain rfl:=hp.found UM.out hj e;unfold jL;rw[zA];exact⟨hj,by rw[zG _ i hj];exact e⟩
  rw[Qg];clear hp Qg hk c7;go_wp2_with fail;go_ret;exact⟨rfl,HB.out⟩
 ·have Qg:jL l.starts k i=false:=by
   unfold jL;rw[ze];rintro⟨h1,h2⟩;rw[zG _ i h1] at h2;exact hs (h2▸zw h1)
  rw[Qg];obtain rfl:k=l.next:=hk.resolve_left hs;clear hp Qg hk;go_wp2_with fail;go_ret;exact⟨by simp,HB.out⟩
def Zm (F:af) (w:World) (gl gd:Nat) (l:Sp.Lg) (k:Nat) (e:Ending) (w':World):Prop:=
 ∃F',e=.returned (.int .i64 0)/\dP F' w' gl gd (l.keep k)/\aa F F' w w'
theorem CX (h:dP F w gl gd l) (hn:l.next<4611686018427387904) (hk:k∈l.starts\/k=l.next) (hk1:l.first<=k) (hk2:k<=l.forced) (hpos:0<l.bytes.length):
 Calls prog 57 #[ptr gl,.int .u64 k] w (Zm F w gl gd l k):=by
 have HI:=zH h;have hin:=h.dA;have HBE:=zH fun(W:World) (h:dP F W gl gd l)=>xU h hk;obtain⟨h1,bv,sv,h3,h4,h5,h6⟩:=h;obtain⟨ib,hib,Ir,Iq,Ip⟩:=info_parts uD;have hff:=h1.ff;have l6:k<=l.next:=zl hk2 h1.fn;have hlen:=h1.len;have hroom:=h1.room;have sW:=h1.J6;have hbm:=Sp.nI hk1;have Aa:=Sp.kO k;obtain⟨a,ha⟩:=zE (Sp.bg k-Sp.bg l.first);have rX:a<=l.bytes.length:=by omega
 obtain⟨gb,cb,rfl⟩:=bP h4 (by omega);have hcap:l.bytes.length<=cb:=by
  rcases h4.2 with⟨_,h0⟩ | ⟨g,c,cur,h0,_,_,e1,e2,_⟩
  ·omega
  ·injection h0 with a1 a2 a3;subst a3;exact e1
 have QS:F gl:=(h6 gl).2 (.inl rfl);have C_:gl<w.heap.size:=h3.lt;have Qb:gb<w.heap.size:=hin gb ((h6 gb).2 (.inr (.inl rfl)));have hcells:=h4.cells (g:=gb) rfl;have K_:=zH fun(n:Nat) (hn:n<18446744073709551616) (W:World)=>iY n hn W;have nE:IntKind.u64.wrap (((Sp.bg k:Nat):Int)-(Sp.bg l.first:Nat))=(a:Nat):=by rw[IntKind.wrap_u64];omega
 have hba:=(zR w).alloc (za _) (.cells #[bU k] 24);have cg:=aj.new w 24 #[bU k];have hkeep:Hid (l.keep k={l with bytes:=l.bytes.drop a,starts:=l.starts.filter (λx=>decide (k<=x)),first:=k}):=by
  show _=_;rw[ha];rfl
 have Xw:=zH (Sp.Lg.C0 h1 (k:=k) (by omega) (by omega));have d1:decide (k<l.first)=false:=by rw[ze];omega
 have d2:decide (l.forced<k)=false:=by rw[ze];omega
 have HLEN:=zH hlen;clear ha hlen;have H3:=zH h3;have H5:=zH h5;have H6:=zH h6;obtain⟨c0,c1,c2,c3,c4,c5,c6,c7,c8,c9⟩:=(h3.below hba C_).lg;have HM:=zH (gI (w:=w.alloc (.cells #[bU k] 24)) c0);clear c0 c1 c2 c3 c4 c5 c7 c9 h3 h4 h5 h6 hk;go_enter func57,ntmps57;go_wp2_with fail;obtain⟨w1,hw1⟩:=zE (w.alloc (.cells #[bU k] 24));rw[<-hw1] at hba cg c6 c8 HM ⊢;have MF:w.heap.size<=w.heap.size:=za _;obtain⟨g3,hg3⟩:=zE w.heap.size;rw[<-hg3] at cg ⊢;have MF:w.heap.size<=g3:=by omega
 clear hw1 hg3;have z3:=cg.cell 0;simp only[zGA,zGC] at z3;refine HM.out.mono ?_;rintro e w2 ⟨rfl,hw⟩;subst w2;go_wp2_with fail;go_quiet (fail);go_wp2_with fail;go_quiet (fail);go_wp2_with fail;have hdd:∀x:Nat,zB w1 (w1.drewN x):=λx=>((aa.refl bM w1).drewN x).ei;refine(HBE.out _ (HI.out.below (hba.trans ((hdd _).mono hba.size)))).mono ?_;rintro e w2 ⟨rfl,hb2⟩;have kK:zB w1 w2:=(hdd _).trans (hb2.mono (hdd _).size);clear hb2 hdd z3 c6 c8 HBE HM;have cG:=hba.trans (kK.mono hba.size);have h3':=H3.out.below cG C_;have Q9:=cg.below kK cg.lt;have z3:=Q9.cell 0;simp only[zGA,zGC] at z3;have c4:=h3'.lg.2.2.2.2.1;have c6:=h3'.lg.2.2.2.2.2.2.1;have hS:=zH (show w2.drew.cell? ⟨gl,4,none⟩=some (.slice (some ⟨gb,0,none⟩) l.bytes.length cb)/\w2.drew.cell? ⟨gl,6,none⟩=some (.int .u64 l.first)/\w2.drew.cell? ⟨g3,0,none⟩=some (bU k) from⟨c4,c6,z3⟩);clear c4 c6 z3;go_wp2_with fail;refine fQ (λW=>zC W gl 4 (.slice (some ⟨gb,0,none⟩) l.bytes.length cb)/\zC W gl 6 (.int .u64 l.first)/\zC W g3 0 (bU k)) (λj=>decide (15<=j)) ?_
 iterate 10 (refine bK hS.out ?_)
 refine aI 6 32 (w':=w2.drew) rfl rfl (by rfl) (by kernel_rfl) ?_ (K_.out k (by omega) _) ?_
 ·go_simp
 rintro e w3 ⟨rfl,hw⟩;subst w3;refine⟨_,rfl,λ_=>hS.out,?_⟩;simp only[zSA,zSB,zSC];refine aI 11 37 (w':=w2.drew) rfl rfl (by rfl) (by kernel_rfl) ?_ (K_.out l.first (by omega) _) ?_
 ·go_simp
 rintro e w3 ⟨rfl,hw⟩;subst w3;refine⟨_,rfl,λ_=>hS.out,?_⟩;simp only[zSA,zSB,zSC]
 iterate 1 (refine bK hS.out ?_)
 have i1:(a:Int)<=(l.bytes.length:Nat):=by omega
 have i2:(0:Int)<=(a:Nat):=by omega
 have i3:(l.bytes.length:Int)<=(cb:Nat):=by omega
 obtain⟨A0,Ae,hA0c⟩:∃A0:Addr,(if cb=a then some (⟨gb,0,none⟩:Addr) else some ⟨gb,a,none⟩)=some A0/\∀j u,(eU (l.bytes.drop a))[j]? =some u->w2.cell? (A0.add j)=some u:=by
  by_cases hca:cb=a
  ·rw[zK hca];refine⟨_,rfl,λj u hu=>?_⟩;have:l.bytes.drop a=[]:=List.drop_eq_nil_of_le (by omega);rw[this] at hu;simp[eU] at hu
  ·rw[zD hca];refine⟨_,rfl,λj u hu=>?_⟩;rw[lR];have e2:=add_lit gb (a+j);refine(World.cell?_of_block (w:=w) (a:=⟨gb,a+j,none⟩) (cG.block gb Qb)).trans ?_;rw[<-e2];refine hcells (a+j) u ?_;rw[KO] at hu ⊢
   rwa [zaf] at hu
 refine RT 13 39 (v:=.slice (some A0) (l.bytes.length-a) (cb-a)) hS.out ?_ (hy:=?_);rotate_left
 ·intro W hSw
  (try dsimp only at hSw)
  go_simp
 simp only[zSA,zSB,zSC];obtain⟨v7,w3,Kj,qU,mS,rJ⟩:=gS (P:=prog) w2.drew w2.heap.size 129 129 5 ib (.int .u8 0) 1 1 underlying129 hib Ir Iq Ip rfl (by decide) (.slice none 0 0) 0 [] (World.ownsRow_nil _ _ _ _) A0 (l.bytes.length-a) (cb-a) (eU (l.bytes.drop a)) (by simp) hA0c (λu hu=>by
  simp only[eU,zn] at hu;obtain⟨b,_,rfl⟩:=hu;rfl) (by unfold maxLen;omega) (by omega) (za _)
 have Qu:zB w2 w3:=⟨mS.os,mS.tape,mS.output,mS.size,λb hb=>mS.block b hb (λe=>nomatch e)⟩;have gz:=zH (show w3.cell? ⟨gl,4,none⟩=some (.slice (some ⟨gb,0,none⟩) l.bytes.length cb)/\w3.cell? ⟨gl,6,none⟩=some (.int .u64 l.first)/\w3.cell? ⟨g3,0,none⟩=some (bU k) from
  ⟨(Qu.cell (p:=⟨gl,4,none⟩) (by have:=cG.size;show gl<_;omega)).trans hS.out.1,(Qu.cell (p:=⟨gl,6,none⟩) (by have:=cG.size;show gl<_;omega)).trans hS.out.2.1,(Qu.cell (p:=⟨g3,0,none⟩) Q9.lt).trans hS.out.2.2⟩)
 refine fe 14 40 (v:=v7) (w':=w3) rfl (gC _ _ _ rfl rfl rfl Kj) (λ_=>gz.out) ?_;have dN:=cG.trans (Qu.mono cG.size);have hB33:=Q9.below Qu Q9.lt;have hG3:=H3.out.below dN C_;have QM:w3.ownsRow 0 5 1 v7 (l.bytes.length-a) (eU (l.bytes.drop a)):=by
  refine⟨by simp,?_⟩;rcases qU.2 with⟨h1,h2⟩ | ⟨g',cap,cur,e,hb,hh,e1,e2,e3,e4⟩
  ·exact .inl ⟨h1,by omega⟩
  ·exact .inr ⟨g',cap,cur,by rw[e,zaj],za0 _,hh,by omega,e2,e3,by simpa using e4⟩
 have hk7':∀k,v7.ownBlock=some k->w2.heap.size<=k:=λk hk=>by
  rcases rJ k hk with h | h
  ·cases h
  ·exact h
 have f4:=hG3.frozen 4;have b4:=gz.out.1;refine fe 15 41 (v:=ptr gl) rfl (by go_simp;rfl) (λh=>nomatch h) ?_;refine fe 16 42 (v:=.pointer (some ⟨gl,4,none⟩)) rfl (by go_simp;rfl) (λh=>nomatch h) ?_;have hv7:v7.oneCell'=true:=by
  rcases QM.2 with⟨h0,_⟩ | ⟨g',cap,cur,h0,_⟩
  ·rw[h0];rfl
  ·rw[h0];rfl
 obtain⟨Av,nv,cv,rfl⟩:∃A n c,v7=.slice A n c:=by
  rcases QM.2 with⟨h0,_⟩ | ⟨g',cap,cur,h0,_⟩
  ·exact⟨_,_,_,h0⟩
  ·exact⟨_,_,_,h0⟩
 refine jx 17 (w':=w3.setCell ⟨gl,4,none⟩ (.slice Av nv cv)) rfl (by go_simp) (λh=>nomatch h) ?_;refine aC (by kernel_rfl) ?_ _;rename_i K9 aT;refine aT _ _ ?_;clear aT hS gz;have dn:=hG3.a_ 4 (.slice Av nv cv);have Yq:gl≠g3:=by omega
 have Us:=hB33.far (p:=⟨gl,4,none⟩) (Ne.symm Yq) (.slice Av nv cv);have hnv:(Value.slice Av nv cv).ownBlock≠some gl:=dI QM hG3 (by decide);have Ul:=bH QM (w':=w3.setCell ⟨gl,4,none⟩ (.slice Av nv cv)) (λb hb=>Below.heap_setCell _ _ _ b (λe=>hnv (by rw[hb];exact congrArg some e)));have sS:sv.ownBlock≠some gl:=dI H5.out H3.out (by decide);have hs3:∀b,sv.ownBlock=some b->(w3.setCell ⟨gl,4,none⟩ (.slice Av nv cv)).heap[b]? =w.heap[b]? :=λb hb=>(Below.heap_setCell _ _ _ b (λe=>sS (by rw[hb];exact congrArg some e))).trans (dN.block b (H5.out.lt b hb).2);have nW:=bH H5.out hs3;have pV:=(aa.az dN F).setCell (p:=⟨gl,4,none⟩) (.inl QS) (.slice Av nv cv);have TP:w3.heap.size<=(w3.setCell ⟨gl,4,none⟩ (.slice Av nv cv)).heap.size:=by simp[World.setCell]
 obtain⟨w4,hw4⟩:=zE (w3.setCell ⟨gl,4,none⟩ (.slice Av nv cv));rw[<-hw4] at dn Us Ul nW pV TP ⊢;have hbl4:∀b,(Value.slice Av nv cv).ownBlock=some b->b<w4.heap.size:=λb hb=>(Ul.lt b hb).2;have hsl4:∀b,sv.ownBlock=some b->b<w.heap.size:=λb hb=>(H5.out.lt b hb).2;have hs3n:sv.ownBlock≠some g3:=λe=>by have:=hsl4 g3 e;omega
 have HDR:=zH (Dw (w:=w4) (base:=0) (ids:=l.starts) (Nf k g3) nW Us hs3n);have c5:=dn.cell 5;clear hw4 hB33 hG3 qU mS rJ QM f4 b4 Kj Q9 h3';go_wp2_with fail;refine HDR.out.mono ?_;rintro e w5 ⟨v',rfl,r1,r2,r3⟩;obtain⟨As,ns,cs,rfl⟩:∃A n c,v'=.slice A n c:=by
  rcases r1.2 with⟨h0,_⟩ | ⟨g',cap,cur,h0,_⟩
  ·exact⟨_,_,_,h0⟩
  ·exact⟨_,_,_,h0⟩
 have eC:=dn.grown r2 (λe=>sS e.symm);have hB35:=Us.grown r2 (λe=>hs3n e.symm);have hO75:=bH Ul (w':=w5) (λb hb=>r2.block b (hbl4 b hb) (λe=>by
  have h1:=hsl4 b e.symm;have h2:=hk7' b hb;have:=cG.size;omega))
 have iV:=pV.grown r2 (λk hk=>.inl ((H6.out k).2 (.inr (.inr hk))));have f5:=eC.frozen 5;have SK:=eC.cell 5;have Mu:(Value.slice As ns cs).ownBlock≠some gl:=λe=>sS (r3 _ e);have hnv5:(Value.slice Av nv cv).ownBlock≠some gl:=hnv;have gM:=eC.a_ 5 (.slice As ns cs);have hB36:=hB35.far (p:=⟨gl,5,none⟩) (Ne.symm Yq) (.slice As ns cs);have hO76:=bH hO75 (w':=w5.setCell ⟨gl,5,none⟩ (.slice As ns cs)) (λb hb=>Below.heap_setCell _ _ _ b (λe=>hnv5 (by rw[hb];exact congrArg some e)));have hr6:=bH r1 (w':=w5.setCell ⟨gl,5,none⟩ (.slice As ns cs)) (λb hb=>Below.heap_setCell _ _ _ b (λe=>Mu (by rw[hb];exact congrArg some e)));have iA:=iV.setCell (p:=⟨gl,5,none⟩) (.inl QS) (.slice As ns cs);have f6:=gM.frozen 6;have c6':=gM.cell 6;have z6:=hB36.cell 0;simp only[zGA,zGC] at z6;have jr:=zH (gM.a_ 6 (.int .u64 (k:Int)));have HO77:=zH (bH hO76 (w':=(w5.setCell ⟨gl,5,none⟩ (.slice As ns cs)).setCell ⟨gl,6,none⟩ (.int .u64 (k:Int))) (λb hb=>Below.heap_setCell _ _ _ b (λe=>hnv5 (by rw[hb];exact congrArg some e))));have HR7:=zH (bH hr6 (w':=(w5.setCell ⟨gl,5,none⟩ (.slice As ns cs)).setCell ⟨gl,6,none⟩ (.int .u64 (k:Int))) (λb hb=>Below.heap_setCell _ _ _ b (λe=>Mu (by rw[hb];exact congrArg some e))));have Zr:=zH (iA.setCell (p:=⟨gl,6,none⟩) (.inl QS) (.int .u64 (k:Int)));clear eC hB35 hO75 iV hO76 hr6 iA r1 r2 HDR dn Us Ul nW pV;go_wp2_with fail;go_ret;refine⟨λb=>b=gl\/(Value.slice Av nv cv).ownBlock=some b\/(Value.slice As ns cs).ownBlock=some b,rfl,?_,?_⟩
 ·have PB:=Xw.out;rw[hkeep.out] at PB ⊢;have hfe:l.starts.filter (λx=> !(decide (x<k)))=l.starts.filter (λx=>decide (k<=x)):=by
   congr 1
   funext x;rw[Bool.eq_iff_iff];simp
  refine⟨PB,_,_,jr.out,?_,?_,λb=>Iff.rfl⟩
  ·have:=HO77.out
   rwa [show(l.bytes.drop a).length=l.bytes.length-a by simp]
  ·have:=HR7.out;rw[hfe] at this;exact this
 ·have h:=Zr.out;refine⟨h.os,h.tape,h.output,h.size,h.block,λb hb=>?_⟩;rcases hb with rfl | hb | hb
  ·exact .inl QS
  ·exact .inr (zl cG.size (hk7' b hb))
  ·exact .inl ((H6.out b).2 (.inr (.inr (r3 b hb))))
end
end
section
open Go.Conc
section
variable {w:World} {gl gd at_ n life first next forced reserved:Nat} {bv sv:Value} {D:af} {d:Sp.Dk}
theorem E6 (hB:aj w gl 131 (dR gd at_ n life bv sv first next forced reserved)) (k:Nat) (hk:k<4611686018427387904) (hat:at_<1000000) (hn1:4<=n) (sW:n<=4096):
 Calls prog 129 #[ptr gl,.int .u64 k] w λe w'=>e=.returned (.int .i64 ((at_+k/110%n:Nat):Int))/\zB w w':=by
 obtain⟨c0,c1,c2,c3,c4,c5,c6,c7,c8,c9⟩:=hB.lg;have hm:=Nat.mod_lt (k/110) (show 0<n by omega);have e1:IntKind.u64.wrap ((n:Nat):Int)=(n:Nat):=by rw[IntKind.wrap_u64];omega
 obtain⟨m,z_⟩:=zE (k/110%n);have e2:((k:Int)/110)%(n:Nat)=(m:Int):=by rw[z_];simp
 have e3:IntKind.i64.wrap (m:Int)=(m:Int):=IntWalk.i64_in _ (by omega);have e5:IntKind.i64.wrap ((at_:Int)+m)=(at_:Int)+m:=IntWalk.i64_in _ (by omega);have e4:Hid ((at_:Int)+(m:Int)=((at_+k/110%n:Nat):Int)):=by show _=_;rw[<-z_];omega
 clear z_ hm;have hn0:¬(n:Int)=0:=by omega
 clear c0 c3 c4 c5 c6 c7 c8 c9;go_enter func129,ntmps129;go_wp2_with fail;go_quiet (fail);go_wp2_with fail;go_ret;rw[e4.out];exact⟨rfl,((aa.refl bM w).drewN _).ei⟩
def rS (k life fr lf sz:Nat) (s:Sp.Bs):Value:=if fr=Sp.bg k/\sz<=110/\lf<=life then .tuple #[str ((s.drop 18).take sz),.int .u64 lf,.int .i64 0] else .tuple #[str [],.int .u64 0,.int .i64 0]
theorem E5 (hB:aj w gl 131 (dR gd at_ n life bv sv first next forced reserved)) (hd:cR D w gd d) (hf:d.bk≠0) (hlo:d.loose=[]) (hk:k<4611686018427387904) (hat:at_<1000000) (hn1:4<=n) (sW:n<=4096) (_:life<18446744073709551616)
 {s:Sp.Bs} (hs:d.sure[at_+k/110%n]? =some s) (hl:s.length=128) {fr lf:Nat} (h1:Sp.num ((s.drop 0).take 8)=fr) (h2:Sp.num ((s.drop 8).take 8)=lf) (h3:Sp.num ((s.drop 16).take 2)=sz) (_:lf<18446744073709551616) (_:fr<18446744073709551616):
 Calls prog 61 #[ptr gl,.int .u64 k] w λe w'=>e=.returned (rS k life fr lf sz s)/\zB w w':=by
 obtain⟨c0,c1,c2,c3,c4,c5,c6,c7,c8,c9⟩:=hB.lg;have kW:=hB.lt;obtain⟨hlt,hse⟩:=zad.1 hs;have HSE:=zH fun(W:World) (h:aj W gl 131 (dR gd at_ n life bv sv first next forced reserved))=>E6 h k hk hat hn1 sW;have HRD:=zH fun(W:World) (h:zB w W)=>uC (hd.below h) hf hlo (at_+k/110%n) hlt;rw[hse] at HRD;have HB:=zH hB;have hb0:zB w w.drew:=(zR _).drew;have hS:=zH (show w.drew.cell? ⟨gl,0,none⟩=some (ptr gd) from c0);have SM:=zH fun(W:World)=>ee s 0 8 W (by omega) (by omega) (by omega) (by omega);have SL:=zH fun(W:World)=>ee s 8 8 W (by omega) (by omega) (by omega) (by omega);have ZQ:=zH fun(W:World)=>ee s 16 2 W (by omega) (by omega) (by omega) (by omega);rw[h1] at SM;rw[h2] at SL;rw[h3] at ZQ;have K_:=zH fun(W:World)=>iY k (by omega) W;have hsz:sz<65536:=by
  rw[<-h3];have:((s.drop 16).take 2).length=2:=by simp;omega
  have h9:=Sp.oH ((s.drop 16).take 2);rw[this] at h9;omega
 clear c0 c1 c2 c3 c4 c5 c6 c7 c8 c9 hB hs hse h1 h2 h3;go_enter func61,ntmps61;go_upto_region 1 with fail;refine fQ (λW=>zC W gl 0 (ptr gd)) (λ_=>false) ?_
 repeat (refine bK hS.out ?_)
 refine aI 6 18 (w':=w.drew) rfl rfl (by rfl) (by kernel_rfl) ?_ (HSE.out _ HB.out.drew) ?_
 ·go_simp
 rintro e w2 ⟨rfl,hb2⟩;have gB:=zH (show w2.cell? ⟨gl,0,none⟩=some (ptr gd) from(hb2.cell (p:=⟨gl,0,none⟩) kW).trans hS.out);have hw2:zB w w2:=hb0.trans hb2;refine⟨_,rfl,λ_=>gB.out,?_⟩;simp only[zSA,zSB,zSC];refine aI 7 19 (w':=w2) rfl rfl (by rfl) (by kernel_rfl) ?_ (HRD.out _ hw2) ?_
 ·go_simp
 rintro e w3 ⟨rfl,hb3⟩;have hw3:=hw2.trans (hb3.mono hw2.size);have gz:=zH (show w3.cell? ⟨gl,0,none⟩=some (ptr gd) from(hb3.cell (p:=⟨gl,0,none⟩) (show gl<_ from zf kW hw2.size)).trans gB.out);refine⟨_,rfl,λ_=>gz.out,?_⟩;simp only[zSA,zSB,zSC]
 repeat (refine bK gz.out ?_)
 refine aC (by kernel_rfl) ?_ _;rename_i K9 aT;refine aT _ _ ?_;clear aT HSE HRD hS gB gz hb2 hb3 hw2;have HW3:=zH hw3;clear hw3;go_wp2_with fail;refine(SM.out w3).mono ?_;rintro e w4 ⟨rfl,hb4⟩;have HW4:=zH (HW3.out.trans (hb4.mono HW3.out.size));clear hb4 HW3 SM;go_wp2_with fail;refine(SL.out w4).mono ?_;rintro e w5 ⟨rfl,cS⟩;have V4:=zH (HW4.out.trans (cS.mono HW4.out.size));clear cS HW4 SL;go_wp2_with fail;refine(ZQ.out w5).mono ?_;rintro e w6 ⟨rfl,fI⟩;have Gt:=V4.out.trans (fI.mono V4.out.size);have c3:=(HB.out.below Gt kW).lg.2.2.2.1;have HW6:=zH Gt;clear fI V4 ZQ Gt;go_wp2_with fail;refine(K_.out w6).mono ?_;rintro e w7 ⟨rfl,hw⟩;subst w7;clear K_;by_cases h1:fr=Sp.bg k
 ·have q1:((fr:Int) != (Sp.bg k:Nat))=false:=by rw[h1];simp
  replace h1:=zH h1;by_cases h2:sz<=110
  ·have q2:decide ((110:Int)<(sz:Int))=false:=by rw[ze];omega
   by_cases h3:lf<=life
   ·have q3:decide ((life:Int)<(lf:Int))=false:=by rw[ze];omega
    have q4:IntKind.i64.wrap (sz:Int)=(sz:Nat):=IntWalk.i64_in _ (by omega);have q5:((18:Int)+(sz:Int)).toNat=18+sz:=by omega
    have q6:(18:Int)+(sz:Int)<=(s.length:Int):=by omega
    have q7:(18:Int)<=18+(sz:Int):=by omega
    have q8:(⟨s.toArray⟩:ByteArray).extract 18 (18+sz)=⟨((s.drop 18).take sz).toArray⟩:=by rw[dw,za5]
    go_wp2_with fail
    go_ret3
    exact⟨by unfold rS;rw[zK ⟨h1.out,h2,h3⟩];rfl,HW6.out⟩
   ·have q3:decide ((life:Int)<(lf:Int))=true:=by rw[zx];omega
    go_wp2_with fail
    go_ret3
    exact⟨by unfold rS;rw[zD (λh=>h3 h.2.2)];rfl,HW6.out⟩
  ·have q2:decide ((110:Int)<(sz:Int))=true:=by rw[zx];omega
   go_wp2_with fail
   go_ret3
   exact⟨by unfold rS;rw[zD (λh=>h2 h.2.1)];rfl,HW6.out⟩
 ·have q1:((fr:Int) != (Sp.bg k:Nat))=true:=by rw[bne_iff_ne];omega
  go_wp2_with fail
  go_ret3
  exact⟨by unfold rS;rw[zD (λh=>h1 h.1)];rfl,HW6.out⟩
end
end
open Go.RowKit Go.Conc
namespace Sp
theorem CT {A B:Bs} {v a:Nat} (ha:A.length=a) (hv:v<256 ^ k):num (((A++(be k v++B)).drop a).take k)=v:=by
 rw[zav ha,zaz (aV k v),cV hv]
theorem Lg.sec_eq (l:Lg) (k:Nat):l.sec k=be 8 k++(be 8 l.life++(be 2 (l.part k).length++(l.part k++zeros (110-(l.part k).length)))):=by
 unfold Lg.sec;simp
theorem Lg.Ox (l:Lg) (hk:k<18446744073709551616) (hl:l.life<18446744073709551616):
 num (((l.sec k).drop 0).take 8)=k/\num (((l.sec k).drop 8).take 8)=l.life/\num (((l.sec k).drop 16).take 2)=(l.part k).length/\((l.sec k).drop 18).take (l.part k).length=l.part k:=by
 have hp:=l.wE k;rw[Lg.sec_eq];refine⟨CT (A:=[]) rfl hk,CT (aV 8 k) hl,?_,?_⟩
 ·rw[<-zh];exact CT (by simp) (by omega)
 ·rw[<-zh,<-zh,zav (by simp),zaz rfl]
end Sp
def OpA (w:World) (w2:World) (g gd life:Nat) (l:Sp.Lg) (m:Nat) (wr:World):Prop:=
 ∃v,aj wr g 131 (dR gd l.at_ l.n life v (.slice none 0 0) l.first 0 0 0)/\wr.ownsRow w2.heap.size 5 1 v (m*110) (eU (l.bytes.take (m*110)))/\zB w wr/\w2.heap.size<=wr.heap.size
theorem xl {w:World} {r:Result Next} (x:Operand) (u:Value) (hx:a.eval x=u) (h:∀ρ:Operand->Value,ρ x=u->(execOp ρ o).run P w=r):(execOp a.eval o).run P w=r:=h _ hx
theorem S5 {w:World} {r:Result Next} (x:Operand) (u:Value) (y:Operand) (v:Value) (hx:a.eval x=u) (hy:a.eval y=v) (h:∀ρ:Operand->Value,ρ x=u->ρ y=v->(execOp ρ o).run P w=r):(execOp a.eval o).run P w=r:=h _ hx hy
theorem Hf {w:World} {t:Sp.Bs} (x:Operand) (ho:o.op=.call {callee:=.builtin .len,args:=#[x],argTypes:=#[9]}) (hx:a.eval x=str t):(execOp a.eval o).run prog w=.ok (.value (.int .i64 t.length)) w:=by
 unfold execOp;simp only[ho,resolve,invoke,builtin,Sem.run_bind,Sem.run_pure,Result.andThen_ok,zar,zF,zaw,hx];go_simp
theorem Ey {w:World} (x:Operand) (ts:Array TypeId) (ho:o.op=.call {callee:=.value (.func 63),args:=#[x],argTypes:=ts}) (hx:a.eval x=v):(execOp a.eval o).run prog w=.ok (.enter 63 #[v]) w:=by
 unfold execOp;have hf:a.eval (.func 63)=.func (.func 63) #[] #[]:=rfl;simp only[ho,resolve,invoke,Sem.run_bind,zar,zF,zaw,hx,hf];go_simp
def OpB (w:World) (b9 g gd life g' c' gt ct:Nat) (l:Sp.Lg) (rs:List (Nat×Sp.Bs)) (j:Nat) (wr:World):Prop:=
 ∃sv,aj wr g 131 (dR gd l.at_ l.n life (.slice (some ⟨g',0,none⟩) l.bytes.length c') sv l.first (Sp.fU rs l.next j) 0 0)/\wr.ownsRow b9 24 1 sv j (oa ((rs.take j).map (·.1)))/\
  wr.ownsRow 0 5 1 (.slice (some ⟨g',0,none⟩) l.bytes.length c') l.bytes.length (eU l.bytes)/\wr.ownsRow 0 9 1 (.slice (some ⟨gt,0,none⟩) rs.length ct) rs.length (ru rs)/\zB w wr/\b9<=wr.heap.size
theorem Ph {w:World} {life:Nat} {D:af} {d:Sp.Dk} {l:Sp.Lg} {rs:List (Nat×Sp.Bs)} (hd:cR D w gd d) (hf:d.bk≠0) (hlo:d.loose=[]) (hfit:l.at_+l.n<=d.sure.length) (hw:l.wf) (hfo:l.forced=l.next) (hi:l.Is rs)
 (PE:∀k,k%110=0->Sp.bg l.first<=k->k<l.next->d.sure[l.dQ k]? =some (l.sec k)) (hpart:l.next%110≠0) (hsome:l.first<l.next) (hlife:l.life<=life) (X_:life<18446744073709551616) (hn:l.next<1000000000):
 Calls prog 19 #[ptr gd,.int .i64 l.at_,.int .i64 l.n,.int .u64 life,.int .u64 l.first] w λe w'=>∃g F,e=.returned (.tuple #[ptr g,.int .i64 0])/\dP F w' g gd {l with life:=life,reserved:=0}/\(∀b,F b->w.heap.size<=b)/\zB w w':=by
 have hlen:=hw.len;have hroom:=hw.room;have sW:=hw.n4;have hn4k:=hw.J6;have hlo1:=hw.lo;have tP:=hw.Ka;have AL:=hw.ug;have hbl:=Sp.kO l.first;have hbm:=Sp.Jt l.first;have hfn:l.first<=l.next:=zl hw.ff hw.fn;have jb:=hd.wf.few;have HI:=zH hi;have HW:=zH hw;have HFO:=zH hfo;have hLm:l.bytes.length%110≠0:=by omega
 have HM:=zH (J_ hd l.at_ l.n life (by omega) (by omega) hfit (by omega));have K_:=zH fun(W:World)=>iY l.first (by omega) W;have hb1:=(zR w).alloc (za _) (.cells (dR gd l.at_ l.n life (.slice none 0 0) (.slice none 0 0) l.first 0 0 0) 131);have aM:=aj.new w 131 (dR gd l.at_ l.n life (.slice none 0 0) (.slice none 0 0) l.first 0 0 0);have d1:decide ((l.first:Int)<110)=false:=by rw[ze];omega
 have d2:decide ((4611686018427387904:Int)<(l.first:Int))=false:=by rw[ze];omega
 have HST:=zH fun(m:Nat) (W:World) (g:Nat) (v:Value) (hm:m*110<l.bytes.length) (hb:zB w W) (hB:aj W g 131 (dR gd l.at_ l.n life v (.slice none 0 0) l.first 0 0 0))=>by
  obtain⟨n1,n2,n3,n4⟩:=l.Ox (k:=Sp.bg l.first+m*110) (by omega) AL;have hp:=l.wE (Sp.bg l.first+m*110);have h:=E5 (k:=Sp.bg l.first+m*110) hB (hd.below hb) hf hlo (by omega) (by omega) (by omega) (by omega) X_ (PE _ (by omega) (by omega) (by omega)) (l.xj _) n1 n2 n3 (by omega) (by omega);have e:rS (Sp.bg l.first+m*110) life (Sp.bg l.first+m*110) l.life (l.part (Sp.bg l.first+m*110)).length (l.sec (Sp.bg l.first+m*110))=.tuple #[str (l.part (Sp.bg l.first+m*110)),.int .u64 l.life,.int .i64 0]:=by
   unfold rS;rw[zK ⟨by unfold Sp.bg;omega,hp,hlife⟩,n4]
  rw[e] at h;exact h
 have hcv:IntKind.u64.wrap ((l.n:Nat):Int)=(l.n:Nat):=by rw[IntKind.wrap_u64];omega
 clear hi hw hfo PE;go_enter func19,ntmps19;go_wp2_with fail;go_step3;go_wp2_with fail;refine HM.out.mono ?_;rintro e w1 ⟨rfl,hw1⟩;subst w1;go_wp2_with fail;refine(K_.out _).mono ?_;rintro e w1 ⟨rfl,hw1⟩;subst w1;clear K_ HM;generalize hw1:World.alloc w _=w1 at hb1 aM ⊢;clear hw1;go_wp2_with fail;go_step3;go_wp2_with fail;obtain⟨g,hg⟩:=zE w.heap.size;rw[<-hg] at aM ⊢;replace hg:=zH hg;have hgw1:=aM.lt;have cA:=zH hb1;have HB:=zH aM;clear aM hb1;obtain⟨ib,hib,Ir,Iq,Ip⟩:=info_parts uD;rename_i K0 hK0;have ZN:=zH hK0;clear hK0;go_loopw [15,54] (λv15 v54 wr=>∃m el:Nat,v54=.int .u64 m/\v15=.int .u64 el/\el<=l.life/\m*110<l.bytes.length/\OpA w w1 g gd life l m wr) (λ_ v54 _=>l.n-(intOf v54).toNat)
 case atStart=>exact⟨0,0,rfl,rfl,by omega,by omega,_,HB.out,World.ownsRow_nil _ _ _ _,cA.out,za _⟩
 case round=>
  obtain⟨m,el,rfl,rfl,hel,hm,v,pX,hor,hbr,NH⟩:=hrel;clear HB cA;have hmn:m<l.n:=by omega
  have t1:decide ((m:Int)<(l.n:Int))=true:=by rw[zA];omega
  have t2:IntKind.u64.wrap ((m:Int)*110)=(m:Int)*110:=by rw[IntKind.wrap_u64];omega
  have t3:IntKind.u64.wrap ((Sp.bg l.first:Int)+(m:Int)*110)=(Sp.bg l.first:Int)+(m:Int)*110:=by rw[IntKind.wrap_u64];omega
  have t4:=zH (show(Sp.bg l.first:Int)+(m:Int)*110=((Sp.bg l.first+m*110:Nat):Int) by omega);have t5:decide ((l.life:Int)<(el:Int))=false:=by rw[ze];omega
  have HO:=zH hor;have jB:=zH pX;have HR:=zH hbr;have hgr:=pX.lt;clear hor pX hbr;go_wp2_with fail;rw[t4.out];refine(HST.out m wr g v hm HR.out jB.out).mono ?_;rintro e w2 ⟨rfl,hb2⟩;have c4:=(jB.out.below hb2 hgr).lg.2.2.2.2.1;have eo:=zH hb2;have hple:=l.wE (Sp.bg l.first+m*110);have hpl:(l.part (Sp.bg l.first+m*110)).length=min 110 (l.bytes.length-m*110):=by unfold Sp.Lg.part;rw[zag,za2,za5]
  have hpt:l.bytes.take (m*110)++l.part (Sp.bg l.first+m*110)=l.bytes.take (m*110+(l.part (Sp.bg l.first+m*110)).length):=by
   rw[hpl];unfold Sp.Lg.part;rw[za5,List.take_add,List.take_eq_take_min (l:=l.bytes.drop (m*110)),za2]
  have GM:=zH hpt;clear hpt hb2;generalize l.part (Sp.bg l.first+m*110)=pt at*;have t6:List.isEmpty pt=false:=by cases pt with | nil=>simp at hpl;omega | cons a b=>rfl
  have tR:=zH hpl;have hpl1:1<=pt.length:=by omega
  have JK:=zH (cq HO.out eo.out);have ZW:=zH (jB.out.below eo.out hgr);have hs2:=eo.out.size;have hmk:m*110<=450560:=by omega
  have R8:=zH (show(ByteArray.mk pt.toArray).size=pt.length by show pt.toArray.size=_;simp);clear hpl HO;by_cases yl:pt.length<110
  ·have t7:decide ((pt.length:Int)<110)=true:=by rw[zA];omega
   have hL:m*110+pt.length=l.bytes.length:=by have:=tR.out;omega
   replace hL:=zH hL;go_wp2_with (at_builtin;refine kr _ rfl _ _ 129 9 rfl w1.heap.size 5 ib underlying129 underlying9 hib Ir Iq Ip v _ _ rfl JK.out ⟨pt.toArray⟩ rfl (by show _+pt.toArray.size<=_;unfold maxLen;simp;omega) (by show _+pt.toArray.size<=_;simp;omega) (by omega) ?_;intro v' w7 r1 r2 r3;obtain⟨g',c',rfl⟩:=bP r1 (by have h:=R8.out;omega);have fu:=ZW.out.grown r2 (λe=>by have:=(JK.out.lt g e.symm).1;omega);have f7:w7.cell? ⟨g,4,none⟩=some v:=fu.cell 4;have Y7:=fu.frozen 4);rw[R8.out] at r1;have r8:w7.ownsRow w1.heap.size 5 1 (.slice (some ⟨g',0,none⟩) (m*110+pt.length) c') (m*110+pt.length) (eU (l.bytes.take (m*110+pt.length))):=by rw[<-GM.out,nK];exact r1
   have iW:=fu.a_ 4 (.slice (some ⟨g',0,none⟩) (m*110+pt.length) c');simp only[zSA,zSB,zSC] at iW;have IA:=aN (w':=w7.setCell ⟨g,4,none⟩ (.slice (some ⟨g',0,none⟩) (m*110+pt.length) c')) r8 (λb hb=>Below.heap_setCell w7 _ _ b (λe=>by have h1:=(r8.lt b hb).1;have e:b=g:=e;omega));have qw:=((HR.out.trans (eo.out.mono HR.out.size)).grown r2 (by have:=HR.out.size;have:=eo.out.size;omega) (λk hk=>by have h1:=(JK.out.lt k hk).1;have:=hg.out;omega)).setCell (p:=⟨g,4,none⟩) (by have:=hg.out;show _<=g;omega) (.slice (some ⟨g',0,none⟩) (m*110+pt.length) c');have D4:w1.heap.size<=(w7.setCell ⟨g,4,none⟩ (.slice (some ⟨g',0,none⟩) (m*110+pt.length) c')).heap.size:=by have:=r2.size;have:=eo.out.size;simp[World.setCell];omega
   rw[hL.out,zL] at IA;rw[hL.out] at iW qw D4 ⊢;generalize Kf:World.setCell w7 _ _=w8 at iW IA qw D4 ⊢;clear Kf r1 r8 r2 r3 fu f7 Y7 tR GM R8 JK ZW jB HR eo c4 t7 t6 t5 t4 t3 t2 t1 hpl1 hple hs2 hmk hL;obtain⟨ah,hae⟩:=zE (l.first-Sp.bg l.first);have hfr:l.bytes.drop ah=Sp.frames rs:=by rw[hae];exact HI.out.bytes
   have hfl:ah+(Sp.frames rs).length=l.bytes.length:=by rw[<-hfr,za2];omega
   have hcap:l.bytes.length<=c'/\c'<=maxLen:=by
    rcases IA.2 with⟨_,h0⟩ | ⟨g1,c1,cur,h0,_,_,e1,e2,_⟩
    ·omega
    ·injection h0 with a1 a2 a3;subst a3;exact⟨e1,e2⟩
   have hcells:=IA.cells (g:=g') rfl;have hgl':=IA.lt g' rfl;have ve:=bt (P:=prog) w8 129 9 5 g' ah (l.bytes.length-ah) (c'-ah) (l.bytes.drop ah) underlying129 underlying5 underlying9 (by simp) (λk hk=>by
    have hk':k<l.bytes.length-ah:=by simp at hk;omega
    have hx:=hcells (ah+k) (.int .u8 ((l.bytes[ah+k]'(by omega)).toNat:Int)) (pE _ _ (by omega));rw[show(⟨g',0,none⟩:Addr).add (ah+k)=⟨g',ah+k,none⟩ by rw[lR,zaj]] at hx;rw[hx];simp)
   rw[hfr] at ve;have Zu:=zH fun(W:World)=>Ja HI.out.chain (by omega) (by omega) (by omega) W;have hah0:ah<110:=by rw[hae];unfold Sp.bg;omega
   have d0:IntKind.u64.wrap ((l.first:Int)-(Sp.bg l.first:Nat))=(ah:Nat):=by rw[IntKind.wrap_u64];omega
   have d3:IntKind.i64.wrap (ah:Int)=(ah:Nat):=IntWalk.i64_in _ (by omega);have t8:decide ((l.bytes.length:Int)<(ah:Int))=false:=by rw[ze];omega
   have i1:(ah:Int)<=(l.bytes.length:Int):=by omega
   have i2:ah<=l.bytes.length:=by omega
   have i3:(0:Int)<=(ah:Int):=by omega
   have i4:l.bytes.length<=c':=hcap.1;have i5:(l.bytes.length:Int)<=(c':Int):=by omega
   have Ua:¬c'=ah:=by omega
   have c4:=iW.lg.2.2.2.2.1;have HR8:=zH IA;have ZZ:=zH qw;have ZY:=zH iW;have UW:=zH hfl;have Gg:=zH hfr;replace hae:=zH hae;clear IA qw iW hcells hfl hfr;refine ZN.out _ _ ?_;clear ZN;go_wp2_with fail;refine(Zu.out w8).mono ?_;rintro e w9 ⟨tv,rfl,hrow,BW⟩;have hne1:1<=rs.length:=by
    have:=HI.out.chain
    cases rs with
    | nil=>have e:l.first=l.next:=this;omega
    | cons r rs=>simp
   obtain⟨gt,ct,rfl⟩:=bP hrow hne1;have fq:=ZY.out.below BW (by have:=ZY.out.lt;omega);have c4:=fq.lg.2.2.2.2.1;have c7:=fq.lg.2.2.2.2.2.2.2.1;have f4:=fq.frozen 4;have hB9':=fq.a_ 4 (.slice (some ⟨g',0,none⟩) l.bytes.length c');have f7:=fq.frozen 7;have Q_:=hB9'.a_ 7 (.int .u64 l.first);simp only[zSA,zSB,zSC] at Q_;have MC:∀b,b≠g->((w9.setCell ⟨g,4,none⟩ (.slice (some ⟨g',0,none⟩) l.bytes.length c')).setCell ⟨g,7,none⟩ (.int .u64 l.first)).heap[b]? =w9.heap[b]? :=λb hb=>(Below.heap_setCell _ _ _ b hb).trans (Below.heap_setCell _ _ _ b hb);have hgt:=hrow.lt gt rfl;have hr10:=aN (cq HR8.out BW) (λb hb=>MC b (λe=>by have h1:=(HR8.out.lt b hb).1;omega));have sR:=aN hrow (λb hb=>MC b (λe=>by have h1:=(hrow.lt b hb).1;omega));have QI:=((ZZ.out.trans (BW.mono ZZ.out.size)).setCell (p:=⟨g,4,none⟩) (by have:=hg.out;show _<=g;omega) (.slice (some ⟨g',0,none⟩) l.bytes.length c')).setCell (p:=⟨g,7,none⟩) (by have:=hg.out;show _<=g;omega) (.int .u64 l.first);have DU:=zH Q_;have Zx:=zH hr10;have Zt:=zH sR;have jA:=zH QI;have d4:IntKind.i64.wrap ((ah:Int)+((Sp.frames rs).length:Int))=(l.bytes.length:Nat):=by have:=UW.out;rw[IntWalk.i64_in _ (by omega)];omega
   have NI:=BW.size;clear Q_ hr10 sR QI fq hB9' hrow BW MC ve Zu d0 d3 t8 i1 i2 Ua HR8 ZZ ZY;go_wp2_with fail;clear c4 c7 f4 f7;generalize Fj:World.setCell (World.setCell w9 _ _) _ _=ot at DU Zx Zt jA ⊢;have PF:w9.heap.size<=ot.heap.size:=by rw[<-Fj];simp[World.setCell]
   clear Fj D4;have nC:g<w9.heap.size:=by omega
   have hgg:g≠g':=by omega
   have hggt:g≠gt:=by omega
   have Wi:=zH nC;have hg'9:=zH (show g'<w9.heap.size by omega);have hgt9:=zH hgt.2;have HGW:=zH (show w.heap.size<=g by rw[hg.out];exact za _);have PT:∀b,(Value.slice (some ⟨g',0,none⟩) l.bytes.length c').ownBlock=some b->b=g':=λb hb=>by simp[Value.ownBlock] at hb;exact hb.symm
   have XX:∀b,(Value.slice (some ⟨gt,0,none⟩) rs.length ct).ownBlock=some b->b=gt:=λb hb=>by simp[Value.ownBlock] at hb;exact hb.symm
   have hrl:rs.length<=1000000:=by
    have h1:=HW.out.few;rw[HI.out.starts,zM] at h1;omega
   obtain⟨iu,P8,Px,Pw,Pv⟩:=info_parts wU;have HL0:Hid (Sp.fU rs l.next 0=l.first):=zH (by
    have h:=HI.out.chain
    cases rs with
    | nil=>simp at hne1
    | cons r rs=>rw[Sp.mG (by simp)];exact h.1)
   go_loopw [141] (λv141 wr=>∃j:Nat,v141=.int .i64 j/\j<=rs.length/\OpB w w9.heap.size g gd life g' c' gt ct l rs j wr) (λv141 _=>rs.length-(intOf v141).toNat)
   case atStart=>exact⟨0,rfl,by omega,_,by rw[HL0.out];exact DU.out,World.ownsRow_nil _ _ _ _,ng Zx.out (za0 _),ng Zt.out (za0 _),jA.out,PF⟩
   case round=>
    obtain⟨j,rfl,hj,sv,jq,NG,hrx,Kg,fN,hsz⟩:=hrel;clear DU Zx Zt jA;by_cases hjl:j<rs.length
    ·have q1:decide ((j:Int)<(rs.length:Int))=true:=by rw[zA];omega
     have hcx:wr.cell? ⟨gt,j,none⟩=some (str rs[j].2):=by
      have hx:=Kg.cells (g:=gt) rfl j (str rs[j].2) (by unfold ru;rw[zN,zk hjl];rfl);rw[show(⟨gt,0,none⟩:Addr).add j=⟨gt,j,none⟩ by rw[lR,zaj]] at hx;exact hx
     obtain⟨hz1,hz2,hz3,hz4,BO⟩:=HI.out.chain.at_ hjl;have HZ3:=zH hz3;have lS:=zH (show oa ((rs.take (j+1)).map (·.1))=oa ((rs.take j).map (·.1))++[.int .u64 (Sp.fU rs l.next j)] by
      rw[zg hjl,zI,Sp.mG hjl];unfold oa;rw[zI];rfl)
     have hnj:=Sp.mG (z:=l.next) hjl;obtain⟨nj,XY⟩:=zE (Sp.fU rs l.next j);rw[<-XY] at jq hnj lS;rw[<-hnj] at HZ3 hz4 BO;replace hnj:=zH hnj;replace XY:=zH XY;obtain⟨tx,XA⟩:=zE (rs[j].2);rw[<-XA] at hcx hz1 hz2 HZ3 BO;replace XA:=zH XA;have c5:=jq.lg.2.2.2.2.2.1;have c7:=jq.lg.2.2.2.2.2.2.2.1;have Nk:=zH NG;have DR:=zH jq;have HRX:=zH hrx;have HTX:=zH Kg;have tU:=zH fN;have hq2:(j:Int)<(rs.length:Int):=by omega
     clear NG jq hrx Kg fN hz3;go_upto_region 28 with fail;clear hcx;have hS:=zH (show wr.drew.cell? ⟨g,5,none⟩=some sv/\wr.drew.cell? ⟨g,7,none⟩=some (.int .u64 nj) from⟨c5,c7⟩);refine fQ (λW=>zC W g 5 sv/\zC W g 7 (.int .u64 nj)) (λi=>decide (13<=i)) ?_
     repeat (refine bK hS.out ?_)
     have b1:=DR.out.drew;have b2:=b1.alloc (.cells #[.int .u64 nj] 24);refine fe 9 154 (v:=.slice (some ⟨wr.drew.heap.size,0,none⟩) 1 1) (w':=wr.drew.alloc (.cells #[.int .u64 nj] 24)) rfl (xl (.tmp 153) (.int .u64 nj) rfl (λρ hρ=>by go_simp)) (λ_=>⟨(b2.cell 5).trans rfl,(b2.cell 7).trans rfl⟩) ?_;have TR:=cq Nk.out (((Below.refl _ wr).drew).alloc (za _) (.cells #[.int .u64 nj] 24));have vJ:=aj.new wr.drew 24 #[.int .u64 nj];have hb2:=(tU.out.drew).alloc (by have:=tU.out.size;exact this) (.cells #[.int .u64 nj] 24);have TU:=cq HRX.out (((Below.refl _ wr).drew).alloc (za _) (.cells #[.int .u64 nj] 24));have TM:=cq HTX.out (((Below.refl _ wr).drew).alloc (za _) (.cells #[.int .u64 nj] 24));have hs2:wr.heap.size<(wr.drew.alloc (.cells #[.int .u64 nj] 24)).heap.size:=by rw[World.size_alloc];exact Nat.lt_succ_self _
     have Qc:wr.drew.heap.size=wr.heap.size:=rfl;rw[Qc] at vJ ⊢;generalize hW2:World.alloc wr.drew _=W2 at b2 TR vJ hb2 TU TM hs2 ⊢;clear hW2 hS b1 Nk HRX HTX DR tU Qc;refine jf 10 rfl (by rfl) (by kernel_rfl) ?_;refine bX _ _ _ _ rfl w9.heap.size 24 iu _ 1 8 underlying105 P8 Px Pw Pv rfl (by decide) sv j _ rfl TR ⟨wr.heap.size,0,none⟩ 1 1 [.int .u64 nj] rfl rfl (λk u hu=>?_) (λx hx=>by simp at hx;subst hx;rfl) (by unfold maxLen;omega) (by omega) (by omega) ?_
     ·cases k with
      | zero=>exact(vJ.cell 0).trans hu
      | succ k=>simp at hu
     intro v9 W3 r1 r2 r3;rw[<-lS.out] at r1;obtain⟨x0,x2,rfl⟩:=bP r1 (by omega);have nos:∀b,sv.ownBlock=some b->w9.heap.size<=b:=λb hb=>(TR.lt b hb).1;have b3:=b2.grown r2 (λe=>by have h1:=nos g e.symm;have:=Wi.out;omega);have hrx3:=aN TU (λb hb=>r2.block b (TU.lt b hb).2 (λe=>by have h1:=nos b e.symm;have h2:=PT b hb;have:=hg'9.out;omega));have htx3:=aN TM (λb hb=>r2.block b (TM.lt b hb).2 (λe=>by have h1:=nos b e.symm;have h2:=XX b hb;have:=hgt9.out;omega));have hb3:=hb2.grown r2 (by have:=hb2.size;omega) (λk hk=>by have h1:=nos k hk;have:=Wi.out;have:=HGW.out;omega);have hs3:wr.heap.size<W3.heap.size:=by have:=r2.size;omega
     have hx0:=(r1.lt x0 rfl).1;refine⟨λ_=>⟨(b3.cell 5).trans rfl,(b3.cell 7).trans rfl⟩,qZ 155 rfl ?_⟩;simp only[zSA,zSB,zSC];clear TR vJ hb2 TU TM b2 r2 r3 nos;refine fe 11 156 (v:=ptr g) (w':=W3) rfl (xl (.tmp 145) (ptr g) rfl (λρ hρ=>by go_simp)) (λ_=>⟨(b3.cell 5).trans rfl,(b3.cell 7).trans rfl⟩) ?_;refine fe 12 157 (v:=.pointer (some ⟨g,5,none⟩)) (w':=W3) rfl (xl (.tmp 156) (ptr g) rfl (λρ hρ=>by go_simp)) (λ_=>⟨(b3.cell 5).trans rfl,(b3.cell 7).trans rfl⟩) ?_;have f5:=b3.frozen 5;have c5:=(b3.cell 5).trans rfl;refine jx 13 (w':=W3.setCell ⟨g,5,none⟩ (.slice (some ⟨x0,0,none⟩) (j+1) x2)) rfl (S5 (.tmp 157) (.pointer (some ⟨g,5,none⟩)) (.tmp 155) (.slice (some ⟨x0,0,none⟩) (j+1) x2) rfl rfl (λρ h1 h2=>by go_simp)) (λh=>nomatch h) ?_;have b4:=b3.a_ 5 (.slice (some ⟨x0,0,none⟩) (j+1) x2);have hk4:∀b,b≠g->(W3.setCell ⟨g,5,none⟩ (.slice (some ⟨x0,0,none⟩) (j+1) x2)).heap[b]? =W3.heap[b]? :=λb hb=>Below.heap_setCell _ _ _ b hb;have TQ:=aN r1 (λb hb=>hk4 b (λe=>by have h1:=(r1.lt b hb).1;have:=Wi.out;omega));have XR:=aN hrx3 (λb hb=>hk4 b (λe=>hgg (e.symm.trans (PT b hb))));have XC:=aN htx3 (λb hb=>hk4 b (λe=>hggt (e.symm.trans (XX b hb))));have hb4:=hb3.setCell (p:=⟨g,5,none⟩) HGW.out (.slice (some ⟨x0,0,none⟩) (j+1) x2);have Gx:wr.heap.size<(W3.setCell ⟨g,5,none⟩ (.slice (some ⟨x0,0,none⟩) (j+1) x2)).heap.size:=by simpa[World.setCell] using hs3
     clear hk4 r1 hrx3 htx3 hb3 hs3 b3 f5 c5;refine aC (by kernel_rfl) ?_ _;generalize hW4:World.setCell W3 _ _=W4 at b4 TQ XR XC hb4 Gx ⊢;clear hW4;rename_i K9 aT;refine aT _ _ ?_;clear aT;have c7:=(b4.cell 7).trans rfl;have gB:=zH (show W4.drew.cell? ⟨g,7,none⟩=some (.int .u64 nj) from c7);go_upto_region 29 with fail;obtain⟨sz,XH⟩:=zE (14+tx.length);have HFS:=zH (show Calls prog 63 #[.int .i64 tx.length] W4.drew λe w'=>e=.returned (.int .i64 sz)/\w'=W4.drew by
      have h:=kM tx.length W4.drew (by omega);rw[zK ⟨hz1,hz2⟩,<-XH] at h;exact h)
     have g1:IntKind.u64.wrap (sz:Int)=(sz:Int):=by rw[IntKind.wrap_u64];omega
     have hnz:nj+sz<=l.next:=by omega
     have g2:IntKind.u64.wrap ((nj:Int)+(sz:Int))=((nj+sz:Nat):Int):=by rw[IntKind.wrap_u64];omega
     have R8:=zH XH;clear XH;refine fQ (λW=>zC W g 7 (.int .u64 nj)) (λi=>decide (11<=i)) ?_
     repeat (refine bK gB.out ?_)
     refine kT 5 163 (v:=.int .i64 tx.length) rfl gB.out (λW hW=>Hf (.tmp 162) rfl rfl) ?_;refine aI 6 164 (w':=W4.drew) rfl rfl (by rfl) (by kernel_rfl) ?_ HFS.out ?_
     ·exact Ey (.tmp 163) _ rfl rfl
     rintro e w5 ⟨rfl,Gu⟩;subst w5;refine⟨_,rfl,λ_=>gB.out,?_⟩;simp only[zSA,zSB,zSC];refine kT 7 165 (v:=.int .u64 sz) rfl gB.out (λW hW=>xl (.tmp 164) (.int .i64 sz) rfl (λρ hρ=>by(try dsimp only at hW);go_simp)) ?_;refine kT 8 166 (v:=.int .u64 ((nj+sz:Nat):Int)) rfl gB.out (λW hW=>S5 (.tmp 161) (.int .u64 nj) (.tmp 165) (.int .u64 sz) rfl rfl (λρ h1 h2=>by(try dsimp only at hW);go_simp)) ?_;refine fe 9 167 (v:=ptr g) (w':=W4.drew) rfl (xl (.tmp 158) (ptr g) rfl (λρ hρ=>by go_simp)) (λ_=>gB.out) ?_;refine fe 10 168 (v:=.pointer (some ⟨g,7,none⟩)) (w':=W4.drew) rfl (xl (.tmp 167) (ptr g) rfl (λρ hρ=>by go_simp)) (λ_=>gB.out) ?_;have b4d:=b4.drew;have f7:=b4d.frozen 7;refine jx 11 (w':=W4.drew.setCell ⟨g,7,none⟩ (.int .u64 ((nj+sz:Nat):Int))) rfl (S5 (.tmp 168) (.pointer (some ⟨g,7,none⟩)) (.tmp 166) (.int .u64 ((nj+sz:Nat):Int)) rfl rfl (λρ h1 h2=>by have c7:=gB.out;go_simp)) (λh=>nomatch h) ?_;have b5:=b4d.a_ 7 (.int .u64 ((nj+sz:Nat):Int));have C6:∀b,b≠g->(W4.drew.setCell ⟨g,7,none⟩ (.int .u64 ((nj+sz:Nat):Int))).heap[b]? =W4.heap[b]? :=λb hb=>Below.heap_setCell _ _ _ b hb;have XI:=aN TQ (λb hb=>C6 b (λe=>by have h1:=(TQ.lt b hb).1;have:=Wi.out;omega));have XQ:=aN XR (λb hb=>C6 b (λe=>hgg (e.symm.trans (PT b hb))));have XB:=aN XC (λb hb=>C6 b (λe=>hggt (e.symm.trans (XX b hb))));have cS:=hb4.drew.setCell (p:=⟨g,7,none⟩) HGW.out (.int .u64 ((nj+sz:Nat):Int));simp only[zSA,zSB,zSC] at b5;have hs5:wr.heap.size<(W4.drew.setCell ⟨g,7,none⟩ (.int .u64 ((nj+sz:Nat):Int))).heap.size:=by
      have h:(W4.drew.setCell ⟨g,7,none⟩ (.int .u64 ((nj+sz:Nat):Int))).heap.size=W4.drew.heap.size:=by simp[World.setCell]
      rw[h];exact Gx
     refine aC (by kernel_rfl) ?_ _;generalize hW5:World.setCell W4.drew _ _=W5 at b5 XI XQ XB cS hs5 ⊢;clear hW5 C6 b4 b4d TQ XR XC hb4 Gx f7 c7 gB HFS;rw[show nj+sz=Sp.fU rs l.next (j+1) by rw[HZ3.out,R8.out]] at b5;have H5:=zH (show OpB w w9.heap.size g gd life g' c' gt ct l rs (j+1) W5 from⟨_,b5,XI,XQ,XB,cS,by omega⟩);clear b5 XI XQ XB cS hs5;rename_i K9 aT;refine aT _ _ ?_;clear aT;go_wp2_with fail;go_roundw
     case rel=>exact⟨j+1,by go_num,hjl,H5.out⟩
     case measure=>simp[intOf];omega
    ·have q1:decide ((j:Int)<(rs.length:Int))=false:=by rw[ze];omega
     obtain rfl:j=rs.length:=by omega
     rw[Sp.uf (za _)] at jq;rw[zL,<-HI.out.starts] at NG;have c7:=jq.lg.2.2.2.2.2.2.2.1;have c8:=jq.lg.2.2.2.2.2.2.2.2.1;have f8:=jq.frozen 8;have hBy:=jq.a_ 8 (.int .u64 l.next);simp only[zSA,zSB,zSC] at hBy;have hk:∀b,b≠g->(wr.setCell ⟨g,8,none⟩ (.int .u64 l.next)).heap[b]? =wr.heap[b]? :=λb hb=>Below.heap_setCell _ _ _ b hb;have hsy:=aN NG (λb hb=>hk b (λe=>by have h1:=(NG.lt b hb).1;have:=Wi.out;omega));have hry:=aN hrx (λb hb=>hk b (λe=>hgg (e.symm.trans (PT b hb))));have qf:=zH hBy;have HSY:=zH hsy;have HRY:=zH hry;have HWW:=zH (fN.setCell (p:=⟨g,8,none⟩) HGW.out (.int .u64 l.next));clear hBy hsy hry hk jq NG hrx Kg fN;go_wp2_with fail;rw[Exit.noGoto_ret]
     go_ret2
     have hw':({l with life:=life,reserved:=0}:Sp.Lg).wf:=⟨HW.out.n4,HW.out.J6,by show 1<=life;omega,X_,HW.out.lo,HW.out.ff,HW.out.fn,HW.out.len,HW.out.room,HW.out.Ai,HW.out.starts⟩;have hbz:=qf.out;refine⟨g,λb=>b=g\/(Value.slice (some ⟨g',0,none⟩) l.bytes.length c').ownBlock=some b\/sv.ownBlock=some b,rfl,⟨hw',_,sv,?_,HRY.out,?_,λb=>Iff.rfl⟩,?_,HWW.out⟩
     ·show aj _ _ _ (dR gd l.at_ l.n life _ sv l.first l.next l.forced 0);rw[HFO.out];exact hbz
     ·show World.ownsRow _ 0 _ 1 sv l.starts.length (oa l.starts);have h:=ng HSY.out (za0 _);rw[HI.out.starts,zM,<-HI.out.starts];exact h
     ·intro b hb;have:=HGW.out;rcases hb with rfl | hb | hb
      ·exact this
      ·have:=PT b hb;omega
      ·have h1:=(HSY.out.lt b hb).1;have:=Wi.out;omega
  ·have t7:decide ((pt.length:Int)<110)=false:=by rw[ze];omega
   have hl110:pt.length=110:=by omega
   go_wp2_with (at_builtin;refine kr _ rfl _ _ 129 9 rfl w1.heap.size 5 ib underlying129 underlying9 hib Ir Iq Ip v _ _ rfl JK.out ⟨pt.toArray⟩ rfl (by show _+pt.toArray.size<=_;unfold maxLen;simp;omega) (by show _+pt.toArray.size<=_;simp;omega) (by omega) ?_;intro v' w7 r1 r2 r3;obtain⟨g',c',rfl⟩:=bP r1 (by have h:=R8.out;omega);have fu:=ZW.out.grown r2 (λe=>by have:=(JK.out.lt g e.symm).1;omega);have f7:w7.cell? ⟨g,4,none⟩=some v:=fu.cell 4;have Y7:=fu.frozen 4);rw[R8.out] at r1;have r8:w7.ownsRow w1.heap.size 5 1 (.slice (some ⟨g',0,none⟩) (m*110+pt.length) c') (m*110+pt.length) (eU (l.bytes.take (m*110+pt.length))):=by rw[<-GM.out,nK];exact r1
   have iW:=fu.a_ 4 (.slice (some ⟨g',0,none⟩) (m*110+pt.length) c');simp only[zSA,zSB,zSC] at iW;have IA:=aN (w':=w7.setCell ⟨g,4,none⟩ (.slice (some ⟨g',0,none⟩) (m*110+pt.length) c')) r8 (λb hb=>Below.heap_setCell w7 _ _ b (λe=>by have h1:=(r8.lt b hb).1;have e:b=g:=e;omega));have qw:=((HR.out.trans (eo.out.mono HR.out.size)).grown r2 (by have:=HR.out.size;have:=eo.out.size;omega) (λk hk=>by have h1:=(JK.out.lt k hk).1;have:=hg.out;omega)).setCell (p:=⟨g,4,none⟩) (by have:=hg.out;show _<=g;omega) (.slice (some ⟨g',0,none⟩) (m*110+pt.length) c');have D4:w1.heap.size<=(w7.setCell ⟨g,4,none⟩ (.slice (some ⟨g',0,none⟩) (m*110+pt.length) c')).heap.size:=by have:=r2.size;have:=eo.out.size;simp[World.setCell];omega
   have e110:m*110+pt.length=(m+1)*110:=by omega
   rw[e110] at iW IA qw D4;have hlt:(m+1)*110<l.bytes.length:=by have:=tR.out;omega
   have H8:=zH (show OpA w w1 g gd life l (m+1) (w7.setCell ⟨g,4,none⟩ (.slice (some ⟨g',0,none⟩) ((m+1)*110) c')) from⟨_,iW,IA,qw,D4⟩);clear iW IA qw D4 r1 r8 r2 r3 fu f7 Y7;go_roundw
   case rel=>exact⟨m+1,l.life,by go_num,rfl,za _,hlt,by rw[show m*110+110=(m+1)*110 by omega];exact H8.out⟩
   case measure=>simp[intOf];omega
open Go.RowKit
namespace Sp
structure Ms where
 count:Nat
 life:Nat
 check:Nat
 first:Nat
 clean:Bool
 deriving DecidableEq
structure Ms.Ok (m:Ms):Prop where
 c0:0<m.count
 l0:0<m.life
 f0:0<m.first
 fc:m.first<=m.check
 Ry:m.count<18446744073709551616
 l64:m.life<18446744073709551616
 Z_:m.check<18446744073709551616
def Ms.body (m:Ms):Bs:=[1]++be 8 m.count++be 8 m.life++be 8 m.check++be 8 m.first++((if m.clean then[1] else[0])++zeros 90)
def Ms.bytes (m:Ms):Bs:=cI m.body
theorem Ms.iv (m:Ms):m.body.length=124:=by
 unfold Ms.body
 cases m.clean<;>simp[zeros]
theorem Ms.tD (m:Ms):m.bytes.length=128:=by simp[Ms.bytes,Ms.iv]
end Sp
def aJ (m:Sp.Ms):Array Value:=#[.int .u64 m.count,.int .u64 m.life,.int .u64 m.check,.int .u64 m.first,.bool m.clean]
abbrev kH (m:Sp.Ms):Value:=.agg (aJ m)
abbrev Sp.jE:Sp.Ms:=⟨0,0,0,0,false⟩
theorem lK {m:Sp.Ms} (h:aj W g 26 (aJ m)):(loadVar 26 ⟨g,0,none⟩).run prog W=.ok (kH m) W:=
 run_loadVar_row W g _ _ _ _ _ h underlying26 rfl rfl
theorem Ia {m:Sp.Ms} (h:m.Ok) (w:World):Calls prog 192 #[kH m] w λe w'=>e=.returned (.bool true)/\zB w w':=by
 obtain⟨c,l,k,f,b⟩:=m;have h1:decide ((0:Int)<(c:Int))=true:=by have:=h.c0;rw[zx];exact Int.natCast_pos.2 this
 have h2:decide ((0:Int)<(l:Int))=true:=by have:=h.l0;rw[zx];exact Int.natCast_pos.2 this
 have h3:decide ((0:Int)<(f:Int))=true:=by have:=h.f0;rw[zx];exact Int.natCast_pos.2 this
 have h4:decide ((f:Int)<=(k:Int))=true:=by have:f<=k:=h.fc;rw[zx];omega
 have h5:((k:Int)==0)=false:=by have:f<=k:=h.fc;have:0<f:=h.f0;simp;omega
 have hb:=(zR w).alloc (za _) (.cells (aJ ⟨c,l,k,f,b⟩) 26);have hB:=aj.new w 26 (aJ ⟨c,l,k,f,b⟩);have c0:(w.alloc (.cells (aJ ⟨c,l,k,f,b⟩) 26)).cell? ⟨w.heap.size,0,none⟩=some (.int .u64 c):=hB.cell 0;have c1:(w.alloc (.cells (aJ ⟨c,l,k,f,b⟩) 26)).cell? ⟨w.heap.size,1,none⟩=some (.int .u64 l):=hB.cell 1;have c2:(w.alloc (.cells (aJ ⟨c,l,k,f,b⟩) 26)).cell? ⟨w.heap.size,2,none⟩=some (.int .u64 k):=hB.cell 2;have c3:(w.alloc (.cells (aJ ⟨c,l,k,f,b⟩) 26)).cell? ⟨w.heap.size,3,none⟩=some (.int .u64 f):=hB.cell 3;have hfk:f<=k:=h.fc;have n1:0<c:=h.c0;have n2:0<l:=h.l0;have n3:0<f:=h.f0;have n4:¬k=0:=by omega
 clear h hB;go_enter func192,ntmps192;go_wp2_with fail;go_ret;exact⟨rfl,hb⟩
theorem EY (w:World):Calls prog 192 #[kH Sp.jE] w λe w'=>e=.returned (.bool false)/\zB w w':=by
 have hb:=(zR w).alloc (za _) (.cells (aJ Sp.jE) 26);have c0:(w.alloc (.cells (aJ Sp.jE) 26)).cell? ⟨w.heap.size,0,none⟩=some (.int .u64 0):=(aj.new w 26 (aJ Sp.jE)).cell 0;go_enter func192,ntmps192;go_wp2_with fail;go_ret;exact⟨rfl,hb⟩
theorem qI {m:Sp.Ms} (h:m.Ok) (w:World):Calls prog 123 #[kH m] w λe w'=>e=.returned (.tuple #[str m.bytes,.int .i64 0])/\zB w w':=by
 have hb1:=(zR w).alloc (za _) (.cells (aJ m) 26);have hB:=aj.new w 26 (aJ m);have HM:=zH (Ia h (w.alloc (.cells (aJ m) 26)));have HL:=zH (lK hB);have HPA:=zH fun(W:World)=>d_ m.count 8 W (by omega) (by omega) h.Ry h.Ry;have HPB:=zH fun(W:World)=>d_ m.life 8 W (by omega) (by omega) h.l64 h.l64;have HPC:=zH fun(W:World)=>d_ m.check 8 W (by omega) (by omega) h.Z_ h.Z_;have HPD:=zH fun(W:World)=>d_ m.first 8 W (by omega) (by omega) (Nat.lt_of_le_of_lt h.fc h.Z_) (Nat.lt_of_le_of_lt h.fc h.Z_);have HS:=zH fun(W:World)=>mr m.body W (by rw[Sp.Ms.iv];omega);have cA:=zH hb1;have HB:=zH hB;clear hb1 hB h;go_enter func123,ntmps123;go_wp2_with (first
  | ((with_reducible refine aY (v:=kH m) (w':=w.alloc (.cells (aJ m) 26)) 10 rfl rfl ?_ ?_);exact ay _ _ ⟨w.heap.size,0,none⟩ rfl rfl HL.out;simp only[zSA,zSB,zSC]))
 refine HM.out.mono ?_;rintro e w1 ⟨rfl,hb2⟩;have aM:=HB.out.below hb2 HB.out.lt;obtain⟨c,l,k,f,b⟩:=m;have c0:w1.cell? ⟨w.heap.size,0,none⟩=some (.int .u64 c):=aM.cell 0;have c1:w1.cell? ⟨w.heap.size,1,none⟩=some (.int .u64 l):=aM.cell 1;have c2:w1.cell? ⟨w.heap.size,2,none⟩=some (.int .u64 k):=aM.cell 2;have c3:w1.cell? ⟨w.heap.size,3,none⟩=some (.int .u64 f):=aM.cell 3;have cH:=cA.out.trans (hb2.mono cA.out.size);have eo:=zH aM;have jA:=zH cH;clear aM cH hb2 HM HL cA HB;have x0:∀w:World,(Instr.index 232 (.agg #[.int .u64 c,.int .u64 l,.int .u64 k,.int .u64 f]) (.int .i64 0)).run prog w=.ok (.int .u64 c) w:=λ_=>by kernel_rfl
 have x1:∀w:World,(Instr.index 232 (.agg #[.int .u64 c,.int .u64 l,.int .u64 k,.int .u64 f]) (.int .i64 1)).run prog w=.ok (.int .u64 l) w:=λ_=>by kernel_rfl
 have x2:∀w:World,(Instr.index 232 (.agg #[.int .u64 c,.int .u64 l,.int .u64 k,.int .u64 f]) (.int .i64 2)).run prog w=.ok (.int .u64 k) w:=λ_=>by kernel_rfl
 have x3:∀w:World,(Instr.index 232 (.agg #[.int .u64 c,.int .u64 l,.int .u64 k,.int .u64 f]) (.int .i64 3)).run prog w=.ok (.int .u64 f) w:=λ_=>by kernel_rfl
 go_wp2_with fail;refine wp_loop_rounds 5 ?_;rw[rounds_succ];go_wp2_with fail;refine(HPA.out _).mono ?_;rintro e w2 ⟨rfl,hb2⟩;go_wp2_with fail;rw[rounds_succ];go_wp2_with fail;refine(HPB.out _).mono ?_;rintro e w3 ⟨rfl,hb3⟩;go_wp2_with fail;rw[rounds_succ];go_wp2_with fail;refine(HPC.out _).mono ?_;rintro e w4 ⟨rfl,hb4⟩;go_wp2_with fail;rw[rounds_succ];go_wp2_with fail;refine(HPD.out _).mono ?_;rintro e w5 ⟨rfl,cS⟩;have Qx:zB w1 w5:=hb2.trans ((hb3.mono hb2.size).trans ((hb4.mono (zl hb2.size hb3.size)).trans (cS.mono (zl hb2.size (zl hb3.size hb4.size)))));have eC:=eo.out.below Qx eo.out.lt;have gK:=jA.out.trans (Qx.mono jA.out.size);have u_:=eC.lt;have c4:w5.cell? ⟨w.heap.size,4,none⟩=some (.bool b):=eC.cell 4;have hX:=aj.new w5 288 (eU (Sp.zeros 91)).toArray;have hbz:(eU (Sp.zeros 91)).toArray=Array.replicate 91 (.int .u8 0):=by kernel_rfl
 have hZ:Tryz.zeroCells288=(eU (Sp.zeros 91)).toArray:=by rw[hbz];kernel_rfl
 have fI:=gK.alloc gK.size (.cells (eU (Sp.zeros 91)).toArray 288);have Gu:w.heap.size<=w5.heap.size:=gK.size;have HZ:=zH hZ;have HX:=zH hX;have qz:=zH fI;clear eC gK hX hbz hZ fI hb2 hb3 hb4 cS Qx c0 c1 c2 c3 eo jA HPA HPB HPC HPD;go_wp2_with fail;rw[rounds_succ];go_upto_region 11 with fail;rw[HZ.out];have Fy:=(zR w5).alloc (za _) (.cells (eU (Sp.zeros 91)).toArray 288);have d4:=(Fy.cell (p:=⟨w.heap.size,4,none⟩) (show w.heap.size<w5.heap.size from u_)).trans c4;obtain⟨w6,Gt⟩:=zE (w5.alloc (.cells (eU (Sp.zeros 91)).toArray 288));obtain⟨g9,nC⟩:=zE w5.heap.size;have vh:=HX.out;have D9:=qz.out;rw[<-Gt,<-nC] at vh;rw[<-Gt] at D9 d4;rw[<-Gt,<-nC];have hg9l:w.heap.size<=g9:=by omega
 have hbody:(⟨#[1]⟩++⟨(Sp.be 8 c).toArray⟩++⟨(Sp.be 8 l).toArray⟩++⟨(Sp.be 8 k).toArray⟩++⟨(Sp.be 8 f).toArray⟩++⟨((if b then[1] else[0])++Sp.zeros 90).toArray⟩:ByteArray)=⟨(Sp.Ms.body ⟨c,l,k,f,b⟩).toArray⟩:=by
  rw[show(⟨#[1]⟩:ByteArray)=⟨([1]:Sp.Bs).toArray⟩ from rfl,aP,aP,aP,aP,aP];rfl
 have Wt:=zH hbody;have V6:∀{s:ByteArray} {W:World} {R:Ending->World->Prop},s=⟨(Sp.Ms.body ⟨c,l,k,f,b⟩).toArray⟩->(∀e w',e=.returned (str (Sp.Ms.bytes ⟨c,l,k,f,b⟩))/\zB W w'->R e w')->Calls prog 179 #[.string s] W R:=λhs h=>by
  subst hs;exact(HS.out _).mono h
 clear Gt nC Fy c4 HX qz HZ hbody
 cases b with
 | true=>
  have fz:=vh.frozen 0;have f0:w6.cell? ⟨g9,0,none⟩=some (.int .u8 0):=vh.cell 0;have yA:=vh.a_ 0 (.int .u8 1);have jZ:=D9.setCell (p:=⟨g9,0,none⟩) hg9l (.int .u8 1);have ve:=bt (P:=prog) (w6.setCell ⟨g9,0,none⟩ (.int .u8 1)) 129 9 5 g9 0 91 91 ([1]++Sp.zeros 90) underlying129 underlying5 underlying9 (by simp[Sp.zeros]) (λj hj=>by
   rw[zaj];refine(yA.cell j).trans ?_;have hj':j<91:=by simpa[Sp.zeros] using hj
   rcases j with _ | j
   ·rfl
   ·have e:((eU (Sp.zeros 91)).toArray.setIfInBounds 0 (.int .u8 1))[j+1]? =(eU (Sp.zeros 91)).toArray[j+1]? :=by rw[zJ (by omega)]
    rw[e,zGA,pE _ _ (by simpa[Sp.zeros] using hj')];simp[Sp.zeros])
  have jr:=zH jZ;clear vh yA D9 jZ;go_wp2_with fail;refine V6 (Wt.out) ?_;rintro e w8 ⟨rfl,qw⟩;have BW:=jr.out.trans (qw.mono jr.out.size);go_wp2_with fail
  go_ret2
  exact⟨rfl,BW⟩
 | false=>
  have ve:=bt (P:=prog) w6 129 9 5 g9 0 91 91 (Sp.zeros 91) underlying129 underlying5 underlying9 (by simp[Sp.zeros]) (λj hj=>by
   rw[zaj];refine(vh.cell j).trans ?_;rw[zGA,pE _ _ hj])
  have jr:=zH D9;clear vh D9;go_wp2_with fail;refine V6 (Wt.out) ?_;rintro e w8 ⟨rfl,qw⟩;have BW:=jr.out.trans (qw.mono jr.out.size);go_wp2_with fail
  go_ret2
  exact⟨rfl,BW⟩
theorem Ts:(prog.info? 26).map (·.size)=some 5:=by kernel_rfl
theorem fB {m0 m:Sp.Ms} (h:aj W g 26 (aJ m0)):(storeVar 26 ⟨g,0,none⟩ (kH m)).run prog W=.ok () (W.setRow g (aJ m)):=by
 obtain⟨c,l,k,f,b⟩:=m;exact ax W g 0 _ _ _ _ h Ts (by show 0+5<=5;omega) (by simp[aJ,Value.oneCell'])
theorem xR (w:World):Calls prog 123 #[kH Sp.jE] w λe w'=>e=.returned (.tuple #[str [],.int .i64 2])/\zB w w':=by
 have hb1:=(zR w).alloc (za _) (.cells (aJ Sp.jE) 26);have HM:=zH (EY (w.alloc (.cells (aJ Sp.jE) 26)));have HL:=zH (lK (aj.new w 26 (aJ Sp.jE)));have cA:=zH hb1;clear hb1;go_enter func123,ntmps123;go_wp2_with (first
  | ((with_reducible refine aY (v:=kH Sp.jE) (w':=w.alloc (.cells (aJ Sp.jE) 26)) 10 rfl rfl ?_ ?_);exact ay _ _ ⟨w.heap.size,0,none⟩ rfl rfl HL.out;simp only[zSA,zSB,zSC]))
 refine HM.out.mono ?_;rintro e w1 ⟨rfl,hb2⟩;have hb3:=cA.out.trans (hb2.mono cA.out.size);go_wp2_with fail
 go_ret2
 exact⟨rfl,hb3⟩
theorem CU {F:af} {w:World} {at_:Nat} {d:Sp.Dk} {m:Sp.Ms} (hd:cR F w gd d) (hf:d.bk≠0) (hf1:(d.put (at_+m.count%2) m.bytes).bk≠0) (hl:d.loose.length<=900000) (tP:(d.put (at_+m.count%2) m.bytes).loose.length<=1000000) (hat:at_+1<d.sure.length) (h31:d.sure.length<1000000000) (hm:m.Ok):
 Calls prog 55 #[ptr gd,.int .i64 at_,kH m] w λe w'=>∃F',e=.returned (.int .i64 0)/\cR F' w' gd (d.put (at_+m.count%2) m.bytes).synced/\(d.put (at_+m.count%2) m.bytes).synced.loose=[]/\aa F F' w w':=by
 have hb1:=(zR w).alloc (za _) (.cells (aJ m) 26);have hB:=aj.new w 26 (aJ m);have HE:=zH (qI hm (w.alloc (.cells (aJ m) 26)));have HL:=zH (lK hB);have HB:=zH hB;have cA:=zH hb1;clear hb1 hB;go_enter func55,ntmps55;go_wp2_with (first
  | ((with_reducible refine aY (v:=kH m) (w':=w.alloc (.cells (aJ m) 26)) 12 rfl rfl ?_ ?_);exact ay _ _ ⟨w.heap.size,0,none⟩ rfl rfl HL.out;simp only[zSA,zSB,zSC]))
 refine HE.out.mono ?_;rintro e w1 ⟨rfl,hb2⟩;have c0:w1.cell? ⟨w.heap.size,0,none⟩=some (.int .u64 m.count):=(HB.out.below hb2 HB.out.lt).cell 0;have cH:=cA.out.trans (hb2.mono cA.out.size);have GA:=hd.below cH;have hmod:m.count%2<2:=Nat.mod_lt _ (by omega);have HW:=zH (nG GA (at_+m.count%2) m.bytes (by omega) (Sp.Ms.tD m) hf (by omega));have e1:IntKind.i64.wrap ((m.count:Int)%2)=((m.count%2:Nat):Int):=(IntWalk.i64_in _ (by omega)).trans (by omega);have e2:IntKind.i64.wrap ((at_:Int)+((m.count%2:Nat):Int))=((at_+m.count%2:Nat):Int):=(IntWalk.i64_in _ (by omega)).trans (by omega);have uH:=zH (aa.az cH F);clear hd GA hb2 cH HB cA HE HL;go_wp2_with fail;rw[show(at_:Int)+(m.count:Int)%2=((at_+m.count%2:Nat):Int) by omega];refine HW.out.mono ?_;rintro e w2 ⟨F2,rfl,hd2,dx⟩;have HS:=zH (uB hd2 hf1 tP);have GK:=zH (uH.out.trans dx);clear hd2 dx HW uH c0;go_wp2_with fail;refine HS.out.mono ?_;rintro e w3 ⟨F3,rfl,Qi,P6,gA⟩;have Zs:=zH (GK.out.trans gA);have HD3:=zH Qi;clear HS GK Qi gA;go_wp2_with fail;go_ret;exact⟨F3,rfl,HD3.out,P6,Zs.out⟩
theorem qJ {s:Sp.Bs} {m:Sp.Ms} {t:Sp.Bs} {er:Nat} {fl:Nat} (hs:s.length=128) (h0:Sp.num ((s.drop 1).take 8)=m.count) (h1:Sp.num ((s.drop 9).take 8)=m.life) (h2:Sp.num ((s.drop 17).take 8)=m.check) (h3:Sp.num ((s.drop 25).take 8)=m.first) (h4:Sp.num ((s.drop 33).take 1)=fl) (h5:m.clean=decide (fl=1))
 (hE:∀W,Calls prog 123 #[kH m] W λe w'=>e=.returned (.tuple #[str t,.int .i64 er])/\zB W w') (w:World) (hg:er=0->t=s):
 Calls prog 67 #[str s] w λe w'=>e=.returned (if er=0 then .tuple #[kH m,.int .i64 0] else .tuple #[kH Sp.jE,.int .i64 7])/\zB w w':=by
 have SM:=zH fun(W:World)=>ee s 1 8 W (by omega) (by omega) (by omega) (by omega);have SL:=zH fun(W:World)=>ee s 9 8 W (by omega) (by omega) (by omega) (by omega);have ZQ:=zH fun(W:World)=>ee s 17 8 W (by omega) (by omega) (by omega) (by omega);have HG3:=zH fun(W:World)=>ee s 25 8 W (by omega) (by omega) (by omega) (by omega);have HG4:=zH fun(W:World)=>ee s 33 1 W (by omega) (by omega) (by omega) (by omega);rw[h0] at SM;rw[h1] at SL;rw[h2] at ZQ;rw[h3] at HG3;rw[h4] at HG4;have HE:=zH hE;clear h0 h1 h2 h3 h4 hE;obtain⟨c,l,k,f,b⟩:=m;have H5:=zH (show b=decide (fl=1) from h5);clear h5;have Fy:=((zR w).alloc (za _) (.cells (aJ Sp.jE) 26)).alloc (by simp) (.cells #[.int .u64 0,.int .u64 0,.int .u64 0,.int .u64 0] 232);have bB:=(aj.new w 26 (aJ Sp.jE)).alloc (.cells #[.int .u64 0,.int .u64 0,.int .u64 0,.int .u64 0] 232);have dn:=aj.new (w.alloc (.cells (aJ Sp.jE) 26)) 232 #[.int .u64 0,.int .u64 0,.int .u64 0,.int .u64 0];have z1:(w.alloc (.cells (aJ Sp.jE) 26)).heap.size=w.heap.size+1:=by simp
 rw[z1] at dn;go_enter func67,ntmps67;go_upto_region 2 with fail;change Code.wp _ _ _ _ ((w.alloc (.cells (aJ Sp.jE) 26)).alloc (.cells #[.int .u64 0,.int .u64 0,.int .u64 0,.int .u64 0] 232));generalize(w.alloc (.cells (aJ Sp.jE) 26)).alloc (.cells #[.int .u64 0,.int .u64 0,.int .u64 0,.int .u64 0] 232)=w1 at Fy bB dn ⊢;obtain⟨g4,hg4⟩:=zE (w.heap.size+1);obtain⟨g2,hg2⟩:=zE w.heap.size;have hl4:w.heap.size<=g4:=by omega
 have hl2:w.heap.size<=g2:=by omega
 have hne:g2≠g4:=by omega
 rw[<-hg4] at dn;rw[<-hg2] at bB;rw[<-hg4,<-hg2];clear hg4 hg2 z1;go_wp2_with fail;refine wp_loop_rounds 5 ?_;rw[rounds_succ];go_wp2_with fail;refine(SM.out _).mono ?_;rintro e v0 ⟨rfl,hb0⟩;have hbv0:=Fy.trans (hb0.mono Fy.size);have mJ:=dn.below hb0 dn.lt;have hBp0:=bB.below hb0 bB.lt;have f0:v0.cell? ⟨g4,0,none⟩=some (.int .u64 0):=mJ.cell 0;have fz:=mJ.frozen 0;go_wp2_with fail;rw[rounds_succ];have Q8:=mJ.a_ 0 (.int .u64 c);have Uf:=hbv0.setCell (p:=⟨g4,0,none⟩) hl4 (.int .u64 c);have KC:=hBp0.far (p:=⟨g4,0,none⟩) hne (.int .u64 c);simp only[zSA,zSB] at Q8;generalize v0.setCell ⟨g4,0,none⟩ (.int .u64 c)=u0 at Q8 Uf KC ⊢;clear mJ hBp0 hbv0 hb0 f0 fz SM dn Fy bB;go_wp2_with fail;refine(SL.out _).mono ?_;rintro e v1 ⟨rfl,hb1⟩;have hbv1:=Uf.trans (hb1.mono Uf.size);have mJ:=Q8.below hb1 Q8.lt;have hBp1:=KC.below hb1 KC.lt;have f0:v1.cell? ⟨g4,1,none⟩=some (.int .u64 0):=mJ.cell 1;have fz:=mJ.frozen 1;go_wp2_with fail;rw[rounds_succ];have Q7:=mJ.a_ 1 (.int .u64 l);have Ue:=hbv1.setCell (p:=⟨g4,1,none⟩) hl4 (.int .u64 l);have KB:=hBp1.far (p:=⟨g4,1,none⟩) hne (.int .u64 l);simp only[zSA,zSB,zSC] at Q7;generalize v1.setCell ⟨g4,1,none⟩ (.int .u64 l)=u1 at Q7 Ue KB ⊢;clear mJ hBp1 hbv1 hb1 f0 fz SL Q8 Uf KC;go_wp2_with fail;refine(ZQ.out _).mono ?_;rintro e v2 ⟨rfl,hb2⟩;have hbv2:=Ue.trans (hb2.mono Ue.size);have mJ:=Q7.below hb2 Q7.lt;have hBp2:=KB.below hb2 KB.lt;have f0:v2.cell? ⟨g4,2,none⟩=some (.int .u64 0):=mJ.cell 2;have fz:=mJ.frozen 2;go_wp2_with fail;rw[rounds_succ];have Q0:=mJ.a_ 2 (.int .u64 k);have Ud:=hbv2.setCell (p:=⟨g4,2,none⟩) hl4 (.int .u64 k);have KA:=hBp2.far (p:=⟨g4,2,none⟩) hne (.int .u64 k);simp only[zSA,zSB,zSC] at Q0;generalize v2.setCell ⟨g4,2,none⟩ (.int .u64 k)=u2 at Q0 Ud KA ⊢;clear mJ hBp2 hbv2 hb2 f0 fz ZQ Q7 Ue KB;go_wp2_with fail;refine(HG3.out _).mono ?_;rintro e v3 ⟨rfl,hb3⟩;have hbv3:=Ud.trans (hb3.mono Ud.size);have mJ:=Q0.below hb3 Q0.lt;have hBp3:=KA.below hb3 KA.lt;have f0:v3.cell? ⟨g4,3,none⟩=some (.int .u64 0):=mJ.cell 3;have fz:=mJ.frozen 3;go_wp2_with fail;rw[rounds_succ];have QZ:=mJ.a_ 3 (.int .u64 f);have Uc:=hbv3.setCell (p:=⟨g4,3,none⟩) hl4 (.int .u64 f);have Kz:=hBp3.far (p:=⟨g4,3,none⟩) hne (.int .u64 f);simp only[zSA,zSB,zSC] at QZ;generalize v3.setCell ⟨g4,3,none⟩ (.int .u64 f)=u3 at QZ Uc Kz ⊢;clear mJ hBp3 hbv3 hb3 f0 fz HG3 Q0 Ud KA;go_wp2_with fail;refine(HG4.out _).mono ?_;rintro e v4 ⟨rfl,hb4⟩;have fC:=Uc.trans (hb4.mono Uc.size);have mJ:=QZ.below hb4 QZ.lt;have hBp:=Kz.below hb4 Kz.lt;have f0:v4.cell? ⟨g4,0,none⟩=some (.int .u64 c):=mJ.cell 0;have f1:v4.cell? ⟨g4,1,none⟩=some (.int .u64 l):=mJ.cell 1;have f2:v4.cell? ⟨g4,2,none⟩=some (.int .u64 k):=mJ.cell 2;have f3:v4.cell? ⟨g4,3,none⟩=some (.int .u64 f):=mJ.cell 3;have q5:((fl:Int)==1)=b:=by
  rw[H5.out,Bool.eq_iff_iff];simp;omega
 have qw:=fC.alloc fC.size (.cells (aJ ⟨c,l,k,f,b⟩) 26);have iW:=aj.new v4 26 (aJ ⟨c,l,k,f,b⟩);have Uq:=hBp.alloc (.cells (aJ ⟨c,l,k,f,b⟩) 26);clear hb4 mJ hBp QZ Kz Uc HG4 fC;go_wp2_with fail;change Calls prog _ _ (v4.alloc (.cells (aJ ⟨c,l,k,f,b⟩) 26)) _;obtain⟨v5,Mu⟩:=zE (v4.alloc (.cells (aJ ⟨c,l,k,f,b⟩) 26));rw[<-Mu] at qw Uq;rw[<-Mu] at iW;rw[<-Mu];refine(HE.out v5).mono ?_;rintro e v6 ⟨rfl,fI⟩;have BW:=qw.trans (fI.mono qw.size);have fq:=iW.below fI iW.lt;have SJ:=Uq.below fI Uq.lt;clear Mu qw iW Uq fI f0 f1 f2 f3 q5 HE H5;by_cases he:er=0
 ·subst he;obtain rfl:=hg rfl;have e0:v6.cell? ⟨v4.heap.size,0,none⟩=some (.int .u64 c):=fq.cell 0;have e1:v6.cell? ⟨v4.heap.size,1,none⟩=some (.int .u64 l):=fq.cell 1;have e2:v6.cell? ⟨v4.heap.size,2,none⟩=some (.int .u64 k):=fq.cell 2;have e3:v6.cell? ⟨v4.heap.size,3,none⟩=some (.int .u64 f):=fq.cell 3;have e4:v6.cell? ⟨v4.heap.size,4,none⟩=some (.bool b):=fq.cell 4;have HST:=zH (fB (m:=⟨c,l,k,f,b⟩) SJ);have pX:=SJ.setRow (aJ ⟨c,l,k,f,b⟩);have hbr:=below_setRow BW hl2 (aJ ⟨c,l,k,f,b⟩);clear SJ fq BW;go_wp2_with (first
   | ((with_reducible refine wpList_skip (w':=v6.setRow g2 (aJ ⟨c,l,k,f,b⟩)) rfl rfl ?_ ?_);exact aq _ _ _ ⟨g2,0,none⟩ (kH ⟨c,l,k,f,b⟩) rfl rfl rfl HST.out))
  change bodyPost _ _ _ _ _ (v6.setRow g2 (aJ ⟨c,l,k,f,b⟩));generalize v6.setRow g2 (aJ ⟨c,l,k,f,b⟩)=v7 at pX hbr ⊢;have p0:v7.cell? ⟨g2,0,none⟩=some (.int .u64 c):=pX.cell 0;have p1:v7.cell? ⟨g2,1,none⟩=some (.int .u64 l):=pX.cell 1;have p2:v7.cell? ⟨g2,2,none⟩=some (.int .u64 k):=pX.cell 2;have p3:v7.cell? ⟨g2,3,none⟩=some (.int .u64 f):=pX.cell 3;have p4:v7.cell? ⟨g2,4,none⟩=some (.bool b):=pX.cell 4;exact bodyPost_ret (v:=.tuple #[kH ⟨c,l,k,f,b⟩,.int .i64 0]) (by rw[results_cell_tmp rfl];go_simp;rfl) rfl ⟨rfl,hbr⟩
 ·have q1:((er:Int) != 0)=true:=by simp;omega
  have HST:=zH (fB (m:=Sp.jE) SJ);have pX:=SJ.setRow (aJ Sp.jE);have hbr:=below_setRow BW hl2 (aJ Sp.jE);have HE0:=zH he;clear SJ fq BW he;go_wp2_with (first
   | ((with_reducible refine wpList_skip (w':=v6.setRow g2 (aJ Sp.jE)) rfl rfl ?_ ?_);exact aq _ _ _ ⟨g2,0,none⟩ (kH Sp.jE) rfl rfl rfl HST.out))
  change bodyPost _ _ _ _ _ (v6.setRow g2 (aJ Sp.jE));generalize v6.setRow g2 (aJ Sp.jE)=v7 at pX hbr ⊢;have p0:v7.cell? ⟨g2,0,none⟩=some (.int .u64 0):=pX.cell 0;have p1:v7.cell? ⟨g2,1,none⟩=some (.int .u64 0):=pX.cell 1;have p2:v7.cell? ⟨g2,2,none⟩=some (.int .u64 0):=pX.cell 2;have p3:v7.cell? ⟨g2,3,none⟩=some (.int .u64 0):=pX.cell 3;have p4:v7.cell? ⟨g2,4,none⟩=some (.bool false):=pX.cell 4;exact bodyPost_ret (v:=.tuple #[kH Sp.jE,.int .i64 7]) (by rw[results_cell_tmp rfl];go_simp;rfl) rfl ⟨by first | rfl | rw[zD HE0.out],hbr⟩
theorem Sp.Ms.cut (m:Sp.Ms):(m.bytes.drop 1).take 8=Sp.be 8 m.count/\(m.bytes.drop 9).take 8=Sp.be 8 m.life/\(m.bytes.drop 17).take 8=Sp.be 8 m.check/\(m.bytes.drop 25).take 8=Sp.be 8 m.first/\(m.bytes.drop 33).take 1=(if m.clean then[1] else[0]):=by
 have e:m.bytes=[1]++(Sp.be 8 m.count++(Sp.be 8 m.life++(Sp.be 8 m.check++(Sp.be 8 m.first++((if m.clean then[1] else[0])++(Sp.zeros 90++Sp.dK m.body)))))):=by
  simp[Sp.Ms.bytes,Sp.cI,Sp.Ms.body]
 have h:∀n,(Sp.be 8 n).length=8:=λn=>Sp.aV _ _;have hf:(if m.clean then[1] else[0]:Sp.Bs).length=1:=by cases m.clean<;>rfl
 rw[e];generalize Sp.zeros 90++Sp.dK m.body=z;have h0:=h m.count;have h1:=h m.life;have h2:=h m.check;have h3:=h m.first;generalize Sp.be 8 m.count=a at*;generalize Sp.be 8 m.life=b at*;generalize Sp.be 8 m.check=c at*;generalize Sp.be 8 m.first=d at*;generalize(if m.clean then[1] else[0]:Sp.Bs)=f at*;have k0:([1]++(a++(b++(c++(d++(f++z)))))).drop 1=a++(b++(c++(d++(f++z)))):=rfl;have k1:([1]++(a++(b++(c++(d++(f++z)))))).drop 9=b++(c++(d++(f++z))):=by
  rw[show 9=1+8 from rfl,<-za1,k0,zav h0]
 have k2:([1]++(a++(b++(c++(d++(f++z)))))).drop 17=c++(d++(f++z)):=by
  rw[show 17=9+8 from rfl,<-za1,k1,zav h1]
 have k3:([1]++(a++(b++(c++(d++(f++z)))))).drop 25=d++(f++z):=by
  rw[show 25=17+8 from rfl,<-za1,k2,zav h2]
 have k4:([1]++(a++(b++(c++(d++(f++z)))))).drop 33=f++z:=by
  rw[show 33=25+8 from rfl,<-za1,k3,zav h3]
 rw[k0,k1,k2,k3,k4];exact⟨zaz h0,zaz h1,zaz h2,zaz h3,zaz hf⟩
theorem rE {m:Sp.Ms} (hm:m.Ok) (w:World):Calls prog 67 #[str m.bytes] w λe w'=>e=.returned (.tuple #[kH m,.int .i64 0])/\zB w w':=by
 obtain⟨k0,k1,k2,k3,k4⟩:=Sp.Ms.cut m;have h:=qJ (s:=m.bytes) (m:=m) (t:=m.bytes) (er:=0) (fl:=if m.clean then 1 else 0) (Sp.Ms.tD m) (by rw[k0];exact Sp.cV (k:=8) hm.Ry) (by rw[k1];exact Sp.cV (k:=8) hm.l64) (by rw[k2];exact Sp.cV (k:=8) hm.Z_) (by rw[k3];exact Sp.cV (k:=8) (Nat.lt_of_le_of_lt hm.fc hm.Z_)) (by rw[k4];cases m.clean<;>rfl) (by cases m.clean<;>rfl) (λW=>qI hm W) w (λ_=>rfl);simpa using h
theorem rD (w:World):Calls prog 67 #[str (Sp.zeros 128)] w λe w'=>e=.returned (.tuple #[kH Sp.jE,.int .i64 7])/\zB w w':=by
 have h:=qJ (s:=Sp.zeros 128) (m:=Sp.jE) (t:=[]) (er:=2) (fl:=0) (by simp[Sp.zeros]) (by decide+kernel) (by decide+kernel) (by decide+kernel) (by decide+kernel) (by decide+kernel) rfl (λW=>xR W) w (λe=>by cases e);simpa using h
theorem EZ {F:af} {w:World} {at_:Nat} {d:Sp.Dk} {m:Sp.Ms} (hd:cR F w gd d) (hf:d.bk≠0) (hl:d.loose=[]) (hat:at_+1<d.sure.length) (h31:d.sure.length<1000000000) (hm:m.Ok)
 (h1:d.sure[at_+m.count%2]? =some m.bytes) (h2:d.sure[at_+(1-m.count%2)]? =some (Sp.zeros 128)):
 Calls prog 20 #[ptr gd,.int .i64 at_] w λe w'=>e=.returned (.tuple #[kH m,.int .i64 0])/\zB w w':=by
 have hb0:=(zR w).alloc (za _) (.cells (aJ Sp.jE) 26);have hB:=aj.new w 26 (aJ Sp.jE);have HG:=zH fun(W:World)=>rE hm W;have HZ:=zH fun(W:World)=>rD W;have HR:=zH fun(W:World) (hW:zB w W) (k:Nat) (hk:k<d.sure.length)=>uC (hd.below hW) hf hl k hk;have hmod:m.count%2=0\/m.count%2=1:=by omega
 have hc0:=hm.c0;clear hd hm;obtain⟨c,l,k,f,b⟩:=m;have HG:Hid (∀W,Calls prog 67 #[str (Sp.Ms.bytes ⟨c,l,k,f,b⟩)] W λe w'=>e=.returned (.tuple #[.agg #[.int .u64 c,.int .u64 l,.int .u64 k,.int .u64 f,.bool b],.int .i64 0])/\zB W w'):=HG;have HZ:Hid (∀W,Calls prog 67 #[str (Sp.zeros 128)] W λe w'=>e=.returned (.tuple #[.agg #[.int .u64 0,.int .u64 0,.int .u64 0,.int .u64 0,.bool false],.int .i64 7])/\zB W w'):=HZ;go_enter func20,ntmps20;go_upto_region 1 with fail;change Code.wp _ _ _ _ (w.alloc (.cells (aJ Sp.jE) 26));obtain⟨w1,hw1⟩:=zE (w.alloc (.cells (aJ Sp.jE) 26));obtain⟨g4,hg4⟩:=zE w.heap.size;have hl4:w.heap.size<=g4:=by omega
 rw[<-hw1] at hb0;rw[<-hw1,<-hg4] at hB;rw[<-hw1,<-hg4];clear hw1 hg4;rcases hmod with hp | hp
 ·skip;have h1':d.sure[at_+0]=Sp.Ms.bytes ⟨c,l,k,f,b⟩:=by
   have h:=h1;rw[show(Sp.Ms.mk c l k f b).count%2=0 from hp,zk (by omega)] at h;injection h
  have h2':d.sure[at_+1]=Sp.zeros 128:=by
   have h:=h2;rw[show(Sp.Ms.mk c l k f b).count%2=0 from hp,zk (by omega)] at h;injection h
  have JI:=zH fun(W:World) (hW:zB w W)=>h1'▸HR.out W hW at_ (by omega);have Cq:=zH fun(W:World) (hW:zB w W)=>h2'▸HR.out W hW (at_+1) (by omega);clear h1 h2 h1' h2' HR;go_wp2_with fail;refine wp_loop_rounds 3 ?_;rw[rounds_succ];go_wp2_with fail;refine(JI.out w1 hb0).mono ?_;rintro e v1 ⟨rfl,yf⟩;have IY:=hb0.trans (yf.mono hb0.size);have mJ:=hB.below yf hB.lt;clear JI yf hb0 hB;go_wp2_with fail;refine(HG.out v1).mono ?_;rintro e v2 ⟨rfl,hv2⟩;have IZ:=IY.trans (hv2.mono IY.size);have QW:=mJ.below hv2 mJ.lt;have hb3:=IZ.alloc IZ.size (.cells (aJ ⟨c,l,k,f,b⟩) 26);have cg:=aj.new v2 26 (aJ ⟨c,l,k,f,b⟩);have hBw:=QW.alloc (.cells (aJ ⟨c,l,k,f,b⟩) 26);have q1:(c:Int)%2=0:=by have:c%2=0:=hp;omega
  have n1:0<c:=hc0;clear IY mJ hv2 IZ QW HG;go_upto_region 8 with fail;change Code.wp _ _ _ _ (v2.alloc (.cells (aJ ⟨c,l,k,f,b⟩) 26));obtain⟨v3,hv3⟩:=zE (v2.alloc (.cells (aJ ⟨c,l,k,f,b⟩) 26));rw[<-hv3] at hb3 cg hBw;rw[<-hv3];clear hv3;have e0:v3.cell? ⟨v2.heap.size,0,none⟩=some (.int .u64 c):=cg.cell 0;have e1:v3.cell? ⟨v2.heap.size,1,none⟩=some (.int .u64 l):=cg.cell 1;have e2:v3.cell? ⟨v2.heap.size,2,none⟩=some (.int .u64 k):=cg.cell 2;have e3:v3.cell? ⟨v2.heap.size,3,none⟩=some (.int .u64 f):=cg.cell 3;have e4:v3.cell? ⟨v2.heap.size,4,none⟩=some (.bool b):=cg.cell 4;have p0:v3.cell? ⟨g4,0,none⟩=some (.int .u64 0):=hBw.cell 0;have HST:=zH (fB (m:=⟨c,l,k,f,b⟩) hBw);have dn:=hBw.setRow (aJ ⟨c,l,k,f,b⟩);have hb4:=below_setRow hb3 hl4 (aJ ⟨c,l,k,f,b⟩);clear hBw cg hb3;go_wp2_with (first
   | ((with_reducible refine wpList_skip (w':=v3.setRow g4 (aJ ⟨c,l,k,f,b⟩)) rfl rfl ?_ ?_);exact aq _ _ _ ⟨g4,0,none⟩ (kH ⟨c,l,k,f,b⟩) rfl rfl rfl HST.out))
  generalize v3.setRow g4 (aJ ⟨c,l,k,f,b⟩)=v4 at dn hb4 ⊢;clear e0 e1 e2 e3 e4 p0 HST;rw[rounds_succ];go_wp2_with fail;rw[show(at_:Int)+1=((at_+1:Nat):Int) by omega];refine(Cq.out v4 hb4).mono ?_;rintro e x1 ⟨rfl,yf⟩;have IY:=hb4.trans (yf.mono hb4.size);have mJ:=dn.below yf dn.lt;clear Cq yf hb4 dn;go_wp2_with fail;refine(HZ.out x1).mono ?_;rintro e x2 ⟨rfl,hv2⟩;have IZ:=IY.trans (hv2.mono IY.size);have QW:=mJ.below hv2 mJ.lt;have fI:=IZ.alloc IZ.size (.cells (aJ Sp.jE) 26);have gM:=QW.alloc (.cells (aJ Sp.jE) 26);clear IY mJ hv2 IZ QW HZ;go_upto_region 8 with fail;change Code.wp _ _ _ _ (x2.alloc (.cells (aJ Sp.jE) 26));generalize x2.alloc (.cells (aJ Sp.jE) 26)=v5 at fI gM ⊢;go_wp2_with fail;rw[rounds_succ];have e0:v5.cell? ⟨g4,0,none⟩=some (.int .u64 c):=gM.cell 0;have e1:v5.cell? ⟨g4,1,none⟩=some (.int .u64 l):=gM.cell 1;have e2:v5.cell? ⟨g4,2,none⟩=some (.int .u64 k):=gM.cell 2;have e3:v5.cell? ⟨g4,3,none⟩=some (.int .u64 f):=gM.cell 3;have e4:v5.cell? ⟨g4,4,none⟩=some (.bool b):=gM.cell 4;have n0:¬c=0:=by have:0<c:=hc0;omega
  have HST:=zH (fB (m:=⟨c,l,k,f,b⟩) gM);have tQ:=gM.setRow (aJ ⟨c,l,k,f,b⟩);have hbz:=below_setRow fI hl4 (aJ ⟨c,l,k,f,b⟩);clear gM fI;go_wp2_with (first
   | ((with_reducible refine wpList_skip (w':=v5.setRow g4 (aJ ⟨c,l,k,f,b⟩)) rfl rfl ?_ ?_);exact aq _ _ _ ⟨g4,0,none⟩ (kH ⟨c,l,k,f,b⟩) rfl rfl rfl HST.out))
  change bodyPost _ _ _ _ _ (v5.setRow g4 (aJ ⟨c,l,k,f,b⟩));generalize v5.setRow g4 (aJ ⟨c,l,k,f,b⟩)=v7 at tQ hbz ⊢;have p0:v7.cell? ⟨g4,0,none⟩=some (.int .u64 c):=tQ.cell 0;have p1:v7.cell? ⟨g4,1,none⟩=some (.int .u64 l):=tQ.cell 1;have p2:v7.cell? ⟨g4,2,none⟩=some (.int .u64 k):=tQ.cell 2;have p3:v7.cell? ⟨g4,3,none⟩=some (.int .u64 f):=tQ.cell 3;have p4:v7.cell? ⟨g4,4,none⟩=some (.bool b):=tQ.cell 4;exact bodyPost_ret (v:=.tuple #[kH ⟨c,l,k,f,b⟩,.int .i64 0]) (by rw[results_cell_tmp rfl];go_simp;rfl) rfl ⟨rfl,hbz⟩
 ·skip;have h1':d.sure[at_+1]=Sp.Ms.bytes ⟨c,l,k,f,b⟩:=by
   have h:=h1;rw[show(Sp.Ms.mk c l k f b).count%2=1 from hp,zk (by omega)] at h;injection h
  have h2':d.sure[at_+0]=Sp.zeros 128:=by
   have h:=h2;rw[show(Sp.Ms.mk c l k f b).count%2=1 from hp,zk (by omega)] at h;injection h
  have JI:=zH fun(W:World) (hW:zB w W)=>h2'▸HR.out W hW at_ (by omega);have Cq:=zH fun(W:World) (hW:zB w W)=>h1'▸HR.out W hW (at_+1) (by omega);clear h1 h2 h1' h2' HR;go_wp2_with fail;refine wp_loop_rounds 3 ?_;rw[rounds_succ];go_wp2_with fail;refine(JI.out w1 hb0).mono ?_;rintro e x1 ⟨rfl,yf⟩;have IY:=hb0.trans (yf.mono hb0.size);have mJ:=hB.below yf hB.lt;clear JI yf hb0 hB;go_wp2_with fail;refine(HZ.out x1).mono ?_;rintro e x2 ⟨rfl,hv2⟩;have IZ:=IY.trans (hv2.mono IY.size);have QW:=mJ.below hv2 mJ.lt;have fI:=IZ.alloc IZ.size (.cells (aJ Sp.jE) 26);have gM:=QW.alloc (.cells (aJ Sp.jE) 26);clear IY mJ hv2 IZ QW HZ;go_upto_region 8 with fail;change Code.wp _ _ _ _ (x2.alloc (.cells (aJ Sp.jE) 26));generalize x2.alloc (.cells (aJ Sp.jE) 26)=v4 at fI gM ⊢;go_wp2_with fail;rw[rounds_succ];go_wp2_with fail;rw[show(at_:Int)+1=((at_+1:Nat):Int) by omega];refine(Cq.out v4 fI).mono ?_;rintro e v1 ⟨rfl,yf⟩;have IY:=fI.trans (yf.mono fI.size);have mJ:=gM.below yf gM.lt;clear Cq yf fI gM;go_wp2_with fail;refine(HG.out v1).mono ?_;rintro e v2 ⟨rfl,hv2⟩;have IZ:=IY.trans (hv2.mono IY.size);have QW:=mJ.below hv2 mJ.lt;have hb3:=IZ.alloc IZ.size (.cells (aJ ⟨c,l,k,f,b⟩) 26);have cg:=aj.new v2 26 (aJ ⟨c,l,k,f,b⟩);have hBw:=QW.alloc (.cells (aJ ⟨c,l,k,f,b⟩) 26);have q1:(c:Int)%2=1:=by have:c%2=1:=hp;omega
  have n1:0<c:=hc0;clear IY mJ hv2 IZ QW HG;go_upto_region 8 with fail;change Code.wp _ _ _ _ (v2.alloc (.cells (aJ ⟨c,l,k,f,b⟩) 26));obtain⟨v3,hv3⟩:=zE (v2.alloc (.cells (aJ ⟨c,l,k,f,b⟩) 26));rw[<-hv3] at hb3 cg hBw;rw[<-hv3];clear hv3;have e0:v3.cell? ⟨v2.heap.size,0,none⟩=some (.int .u64 c):=cg.cell 0;have e1:v3.cell? ⟨v2.heap.size,1,none⟩=some (.int .u64 l):=cg.cell 1;have e2:v3.cell? ⟨v2.heap.size,2,none⟩=some (.int .u64 k):=cg.cell 2;have e3:v3.cell? ⟨v2.heap.size,3,none⟩=some (.int .u64 f):=cg.cell 3;have e4:v3.cell? ⟨v2.heap.size,4,none⟩=some (.bool b):=cg.cell 4;have p0:v3.cell? ⟨g4,0,none⟩=some (.int .u64 0):=hBw.cell 0;have HST:=zH (fB (m:=⟨c,l,k,f,b⟩) hBw);have dn:=hBw.setRow (aJ ⟨c,l,k,f,b⟩);have hb4:=below_setRow hb3 hl4 (aJ ⟨c,l,k,f,b⟩);clear hBw cg hb3;go_wp2_with (first
   | ((with_reducible refine wpList_skip (w':=v3.setRow g4 (aJ ⟨c,l,k,f,b⟩)) rfl rfl ?_ ?_);exact aq _ _ _ ⟨g4,0,none⟩ (kH ⟨c,l,k,f,b⟩) rfl rfl rfl HST.out))
  generalize v3.setRow g4 (aJ ⟨c,l,k,f,b⟩)=v5 at dn hb4 ⊢;clear e0 e1 e2 e3 e4 p0 HST;rw[rounds_succ];have e0:v5.cell? ⟨g4,0,none⟩=some (.int .u64 c):=dn.cell 0;have e1:v5.cell? ⟨g4,1,none⟩=some (.int .u64 l):=dn.cell 1;have e2:v5.cell? ⟨g4,2,none⟩=some (.int .u64 k):=dn.cell 2;have e3:v5.cell? ⟨g4,3,none⟩=some (.int .u64 f):=dn.cell 3;have e4:v5.cell? ⟨g4,4,none⟩=some (.bool b):=dn.cell 4;have n0:¬c=0:=by have:0<c:=hc0;omega
  have HST:=zH (fB (m:=⟨c,l,k,f,b⟩) dn);have tQ:=dn.setRow (aJ ⟨c,l,k,f,b⟩);have hbz:=below_setRow hb4 hl4 (aJ ⟨c,l,k,f,b⟩);clear dn hb4;go_wp2_with (first
   | ((with_reducible refine wpList_skip (w':=v5.setRow g4 (aJ ⟨c,l,k,f,b⟩)) rfl rfl ?_ ?_);exact aq _ _ _ ⟨g4,0,none⟩ (kH ⟨c,l,k,f,b⟩) rfl rfl rfl HST.out))
  change bodyPost _ _ _ _ _ (v5.setRow g4 (aJ ⟨c,l,k,f,b⟩));generalize v5.setRow g4 (aJ ⟨c,l,k,f,b⟩)=v7 at tQ hbz ⊢;have p0:v7.cell? ⟨g4,0,none⟩=some (.int .u64 c):=tQ.cell 0;have p1:v7.cell? ⟨g4,1,none⟩=some (.int .u64 l):=tQ.cell 1;have p2:v7.cell? ⟨g4,2,none⟩=some (.int .u64 k):=tQ.cell 2;have p3:v7.cell? ⟨g4,3,none⟩=some (.int .u64 f):=tQ.cell 3;have p4:v7.cell? ⟨g4,4,none⟩=some (.bool b):=tQ.cell 4;exact bodyPost_ret (v:=.tuple #[kH ⟨c,l,k,f,b⟩,.int .i64 0]) (by rw[results_cell_tmp rfl];go_simp;rfl) rfl ⟨rfl,hbz⟩
open Go.RowKit
def fo (b:Int) (f:Nat->Int):Nat->Int
 | 0=>b
 | k+1=>if f k<fo b f k then f k else fo b f k
theorem EW (b:Int) (f:Nat->Int) (k:Nat):min (fo b f k) (f k)=fo b f (k+1):=by
 show min (fo b f k) (f k)=if f k<fo b f k then f k else fo b f k
 split<;>omega
structure Rd2 (w:World) (A:Option Addr) (n:Nat) (p f:Nat->Int):Prop where
 at_:0<n->∃b o,A=some ⟨b,o,none⟩/\b<w.heap.size/\∀i,i<n->w.cell? ⟨b,o+i*2,none⟩=some (.int .u32 (p i))/\w.cell? ⟨b,o+i*2+1,none⟩=some (.int .u64 (f i))
structure Rd4 (w:World) (A:Option Addr) (n:Nat) (t f l x:Nat->Int):Prop where
 at_:0<n->∃b o,A=some ⟨b,o,none⟩/\b<w.heap.size/\∀i,i<n->w.cell? ⟨b,o+i*4,none⟩=some (.int .u64 (t i))/\w.cell? ⟨b,o+i*4+1,none⟩=some (.int .u64 (f i))/\w.cell? ⟨b,o+i*4+2,none⟩=some (.int .u64 (l i))/\w.cell? ⟨b,o+i*4+3,none⟩=some (.int .u64 (x i))
theorem rC (b0:Int) (A B:Option Addr) (nD cD nT cT:Nat) (pD fD tT fT lT xT:Nat->Int) (tx nm:Int) (w:World)
 (hD:Rd2 w A nD pD fD) (hT:Rd4 w B nT tT fT lT xT) (hnD:nD<=1000000) (hnT:nT<=1000000):
  Calls prog 37 #[.int .u64 b0,.agg #[.slice A nD cD,.slice B nT cT,.int .u64 tx,.int .u64 nm]] w λe w'=>
   e=.returned (.int .u64 (fo (fo b0 fD nD) fT nT))/\zB w w':=by
 go_enter func37,ntmps37;go_wp2;go_loopw [0,12] (λb i wr=>∃k:Nat,k<=nD/\i=.int .i64 k/\b=.int .u64 (fo b0 fD k)/\zB w wr/\w.heap.size<wr.heap.size/\wr.cell? ⟨w.heap.size,1,none⟩=some (.slice B nT cT)) (λ_ i _=>nD-(intOf i).toNat)
 case atStart=>exact⟨0,by omega,rfl,rfl,(zR _).alloc (za _) _,by simp,by go_simp⟩
 case round=>
  obtain⟨k,hk,rfl,rfl,hb,hsz,hbox⟩:=hrel;by_cases hlt:k<nD
  ·obtain⟨bD,oD,rfl,hbD,hc⟩:=hD.at_ (by omega);obtain⟨hc1,hc2⟩:=hc k hlt;have vg:=hb.size;rw[<-hb.cell (p:=⟨bD,oD+k*2,none⟩) hbD] at hc1;rw[<-hb.cell (p:=⟨bD,oD+k*2+1,none⟩) hbD] at hc2;clear hc;go_wp2;go_roundw
   case rel=>exact⟨k+1,by omega,by go_num,by rw[EW],hb.alloc vg _,by simp;omega,(World.cell?_alloc_lt _ _ _ (by simpa using hsz)).trans hbox⟩
   case measure=>simp[intOf];omega
  ·have vg:=hb.size;obtain rfl:k=nD:=by omega
   generalize hm:fo b0 fD k=m at*;have Hm:=zH hm;clear hm;go_wp2;go_loopw [0,24] (λb i wr=>∃j:Nat,j<=nT/\i=.int .i64 j/\b=.int .u64 (fo m fT j)/\zB w wr) (λ_ i _=>nT-(intOf i).toNat)
   case atStart=>exact⟨0,by omega,rfl,rfl,hb⟩
   case round=>
    clear hb vg hbox hsz;obtain⟨j,hj,rfl,rfl,hb⟩:=hrel;have vg:=hb.size;by_cases hlt2:j<nT
    ·obtain⟨bT,oT,rfl,hbT,hc⟩:=hT.at_ (by omega);obtain⟨hc1,hc2,hc3,vO⟩:=hc j hlt2;rw[<-hb.cell (p:=⟨bT,_,none⟩) hbT] at hc1 hc2 hc3 vO;clear hc;go_wp2;go_roundw
     case rel=>exact⟨j+1,by omega,by go_num,by rw[EW],hb.alloc vg _⟩
     case measure=>simp[intOf];omega
    ·obtain rfl:j=nT:=by omega
     go_wp2;go_ret;exact⟨by rw[Hm.out];rfl,hb⟩
theorem Ml (b0:Int) (A B:Option Addr) (nD cD nT cT:Nat) (pD fD tT fT lT xT:Nat->Int) (tx nm:Int) (w:World)
 (hD:Rd2 w A nD pD fD) (hT:Rd4 w B nT tT fT lT xT) (hnD:nD<=1000000) (hnT:nT<=1000000):
  Calls prog 15 #[.int .u64 b0,.agg #[.slice A nD cD,.slice B nT cT,.int .u64 tx,.int .u64 nm]] w λe w'=>
   e=.returned (.int .u64 (fo (fo b0 fD nD) fT nT))/\zB w w':=by
 go_enter func15,ntmps15;go_wp2
 go_loop [0,5] (λb i=>∃k:Nat,k<=nD/\i=.int .i64 k/\b=.int .u64 (fo b0 fD k)) (λ_ i=>nD-(intOf i).toNat)
 case atStart=>exact⟨0,by omega,rfl,rfl⟩
 case round=>
  obtain⟨k,hk,rfl,rfl⟩:=hrel;by_cases hlt:k<nD
  ·obtain⟨bD,oD,rfl,hbD,hc⟩:=hD.at_ (by omega);obtain⟨hc1,hc2⟩:=hc k hlt;clear hc;by_cases hf:fD k<fo b0 fD k
   ·have hf':fo b0 fD (k+1)=fD k:=by simp[fo,hf]
    go_wp2
    go_round
    case rel=>exact⟨k+1,by omega,by go_num,by rw[hf']⟩
    case measure=>simp[intOf];omega
   ·have hf':fo b0 fD (k+1)=fo b0 fD k:=by simp[fo,hf]
    go_wp2
    go_round
    case rel=>exact⟨k+1,by omega,by go_num,by rw[hf']⟩
    case measure=>simp[intOf];omega
  ·obtain rfl:k=nD:=by omega
   generalize hm:fo b0 fD k=m at*;have Hm:=zH hm;clear hm;go_wp2
   go_loop [0,6] (λb i=>∃j:Nat,j<=nT/\i=.int .i64 j/\b=.int .u64 (fo m fT j)) (λ_ i=>nT-(intOf i).toNat)
   case atStart=>exact⟨0,by omega,rfl,rfl⟩
   case round=>
    obtain⟨j,hj,rfl,rfl⟩:=hrel;by_cases hlt2:j<nT
    ·obtain⟨bT,oT,rfl,hbT,hc⟩:=hT.at_ (by omega);obtain⟨hc1,hc2,hc3,vO⟩:=hc j hlt2;clear hc;by_cases hf:fT j<fo m fT j
     ·have hf':fo m fT (j+1)=fT j:=by simp[fo,hf]
      go_wp2
      go_round
      case rel=>exact⟨j+1,by omega,by go_num,by rw[hf']⟩
      case measure=>simp[intOf];omega
     ·have hf':fo m fT (j+1)=fo m fT j:=by simp[fo,hf]
      go_wp2
      go_round
      case rel=>exact⟨j+1,by omega,by go_num,by rw[hf']⟩
      case measure=>simp[intOf];omega
    ·obtain rfl:j=nT:=by omega
     go_wp2;go_ret;exact⟨by rw[Hm.out];rfl,(zR _).alloc (za _) _⟩
theorem bcell {w1:World} (hb:zB W w1):(∀b o,b<W.heap.size->w1.cell? ⟨b,o,none⟩=W.cell? ⟨b,o,none⟩)/\(∀b o,b<W.heap.size->w1.frozen? ⟨b,o,none⟩=W.frozen? ⟨b,o,none⟩):=
 ⟨λb o h=>hb.cell (p:=⟨b,o,none⟩) h,λb o h=>hb.frozen (p:=⟨b,o,none⟩) h⟩
theorem Li (w:World):
 Calls prog 8 #[] w λe w'=>e=.returned (.bool true)/\zB w w':=by
 go_enter func8,ntmps8;go_wp2_with fail;refine(rC 300 _ _ 1 1 1 1 (λ_=>1) (λ_=>200) (λ_=>1) (λ_=>250) (λ_=>250) (λ_=>0) 0 0 _ ⟨λ_=>⟨_,_,rfl,by simp;omega,λi hi=>?_⟩⟩ ⟨λ_=>⟨_,_,rfl,by simp,λi hi=>?_⟩⟩ (by omega) (by omega)).mono ?_
 ·obtain rfl:i=0:=by omega
  go_simp
 ·obtain rfl:i=0:=by omega
  go_simp
 rintro e w1 ⟨rfl,hb⟩;have hm:fo (fo 300 (λ_=>200) 1) (λ_=>250) 1=200:=by decide
 rw[hm];clear hm;obtain⟨hc,hf⟩:=bcell hb;have hs:=hb.size;go_wp2_with fail;refine(rC 100 _ _ 1 1 1 1 (λ_=>1) (λ_=>200) (λ_=>1) (λ_=>250) (λ_=>250) (λ_=>0) 0 0 _ ⟨λ_=>⟨_,_,rfl,by simp at hs ⊢;omega,λi hi=>?_⟩⟩ ⟨λ_=>⟨_,_,rfl,by simp at hs ⊢;omega,λi hi=>?_⟩⟩ (by omega) (by omega)).mono ?_
 ·obtain rfl:i=0:=by omega
  go_simp
 ·obtain rfl:i=0:=by omega
  go_simp
 rintro e w2 ⟨rfl,hb2⟩;have hm:fo (fo 100 (λ_=>200) 1) (λ_=>250) 1=100:=by decide
 rw[hm];clear hm;go_wp2_with fail;go_ret;refine⟨rfl,?_⟩;refine((((zR _).alloc (za _) _).alloc (by simp) _).alloc (by simp;omega) _).trans ((hb.mono (by simp;omega)).trans (hb2.mono ?_));simp at hs ⊢;omega
namespace Sp
def bQ (b:Nat) (x:bI):Nat:=(x.t.map (·.first)).foldl min ((x.d.map (·.2)).foldl min b)
end Sp
theorem BH (l:List Nat) (b:Nat):∀k,k<=l.length->fo (b:Int) (λi=>((l[i]! :Nat):Int)) k=(((l.take k).foldl min b:Nat):Int)
 | 0,_=>by simp[fo]
 | k+1,h=>by
  have hk:k<l.length:=h;unfold fo;rw[BH l b k (by omega),zg hk,List.foldl_append,zG l k hk];simp only[zbh,List.foldl_nil]
  split<;>omega
theorem EX (l:List Nat) (b:Nat):fo (b:Int) (λi=>((l[i]! :Nat):Int)) l.length=((l.foldl min b:Nat):Int):=by
 rw[BH l b l.length (za _),zL]
section
variable {G:af} {w:World} {x:Sp.bI} {D T:Option Addr} {cd ct b:Nat}
theorem bS.rd (h:bS G w x D T):Rd2 w D x.d.length (λi=>(((x.d.map (·.1))[i]! :Nat):Int)) (λi=>(((x.d.map (·.2))[i]! :Nat):Int))/\
 Rd4 w T x.t.length (λi=>(((x.t.map (·.tx))[i]! :Nat):Int)) (λi=>(((x.t.map (·.first))[i]! :Nat):Int)) (λi=>(((x.t.map (·.last))[i]! :Nat):Int)) (λi=>(((x.t.map (·.next))[i]! :Nat):Int)):=by
 refine⟨⟨λhn=>?_⟩,⟨λhn=>?_⟩⟩
 ·obtain⟨b,o,hA,_,hlt,hc⟩:=h.d.2 hn;refine⟨b,o,hA,hlt,λi hi=>?_⟩;obtain⟨q1,q2⟩:=gU hi;have e1:=hc _ _ q1;have e2:=hc _ _ q2;rw[<-Nat.add_assoc] at e2;rw[zG _ i (by simpa using hi),zG _ i (by simpa using hi),za6,za6];exact⟨e1,e2⟩
 ·obtain⟨b,o,hA,_,hlt,hc⟩:=h.t.2 hn;refine⟨b,o,hA,hlt,λi hi=>?_⟩;obtain⟨q1,q2,q3,q4⟩:=yU hi;have e1:=hc _ _ q1;have e2:=hc _ _ q2;have e3:=hc _ _ q3;have e4:=hc _ _ q4;rw[<-Nat.add_assoc] at e2 e3 e4;rw[zG _ i (by simpa using hi),zG _ i (by simpa using hi),zG _ i (by simpa using hi),zG _ i (by simpa using hi),za6,za6,za6,za6];exact⟨e1,e2,e3,e4⟩
theorem BD:fo (fo (b:Int) (λi=>(((x.d.map (·.2))[i]! :Nat):Int)) x.d.length) (λi=>(((x.t.map (·.first))[i]! :Nat):Int)) x.t.length=((Sp.bQ b x:Nat):Int):=by
 have h1:=EX (x.d.map (·.2)) b;rw[zM] at h1;rw[h1];have h2:=EX (x.t.map (·.first)) ((x.d.map (·.2)).foldl min b);rw[zM] at h2;rw[h2];rfl
theorem Dz (h:bS G w x D T) (hd:x.d.length<=1000000) (ht:x.t.length<=1000000):
 Calls prog 37 #[.int .u64 b,iz x D T cd ct] w λe w'=>e=.returned (.int .u64 (Sp.bQ b x:Nat))/\zB w w':=by
 have h1:=rC (b:Int) D T x.d.length cd x.t.length ct _ _ _ _ _ _ x.tx x.num w h.rd.1 h.rd.2 hd ht;rw[BD] at h1;exact h1
theorem Fb (h:bS G w x D T) (hd:x.d.length<=1000000) (ht:x.t.length<=1000000):
 Calls prog 15 #[.int .u64 b,iz x D T cd ct] w λe w'=>e=.returned (.int .u64 (Sp.bQ b x:Nat))/\zB w w':=by
 have h1:=Ml (b:Int) D T x.d.length cd x.t.length ct _ _ _ _ _ _ x.tx x.num w h.rd.1 h.rd.2 hd ht;rw[BD] at h1;exact h1
end
end Go.Proofs.YtfpjlkdklgokiaaGreat
