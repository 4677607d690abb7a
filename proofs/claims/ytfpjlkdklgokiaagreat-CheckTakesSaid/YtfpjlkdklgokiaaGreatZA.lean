/- A part of the proof of CheckTakes. -/
import Derived.Below
import Derived.BigQuiet
import Derived.BigRegion
import Derived.ChangeAlike
import Derived.Deep.AppendLies
import Derived.Deep.DeepFit
import Derived.Deep.DeepMust
import Derived.Deep.Draws
import Derived.Deep.LoopGhost
import Derived.Deep.MidRow
import Derived.Deep.QuietTactic
import Derived.Deep.RegionHeld
import Derived.Deep.RegionHeld3
import Derived.Deep.RegionWith
import Derived.Deep.WholeRow
import Derived.IntWalk
import Derived.Laws.AppendOwn
import Derived.Laws.BitsAllLaws
import Derived.Laws.BytesArg
import Derived.Laws.BytesString
import Derived.Laws.CopyOwn
import Derived.Laws.Entries
import Derived.Laws.IdiomStrings
import Derived.Laws.MakeOwn
import Derived.Laws.OwnMore
import Derived.Laws.ResultCell
import Derived.Laws.Rows
import Derived.Laws.Tables
import Derived.Lib.BufferWrite
import Derived.Lib.ConvBytes
import Derived.Lib.Hide
import Derived.Lib.SlBuf
import Derived.LoopTactic
import Derived.Maps.AppendAt
import Derived.OrdersHeld
import Derived.Outline
import Derived.OwnWalk
import Derived.ProofKit
import Derived.RegionTactic
import Derived.Tactics
import Derived.Test.YtfpjlkdklgokiaaGreatProg
import Derived.WalkKit
import Derived.WalkLawsBesides
import Derived.WalkSpells
namespace Go.Proofs.YtfpjlkdklgokiaaGreat
set_option maxRecDepth 100000
set_option maxHeartbeats 40000000
open Go.RowKit
open Tryz
theorem zSA.{u} {α:Type u} (l:List α) (i:Nat) (a:α):l.toArray.setIfInBounds i a=(l.set i a).toArray:=List.setIfInBounds_toArray l i a
theorem zSB.{u} {α:Type u} (a:α) (l:List α) (b:α):(a::l).set 0 b=b::l:=List.set_cons_zero
theorem zSC.{u} {α:Type u} (a:α) (l:List α) (n:Nat) (b:α):(a::l).set (n+1) b=a::l.set n b:=List.set_cons_succ
theorem zGA.{u} {α:Type u} (l:List α) (i:Nat):l.toArray[i]? =l[i]? :=List.getElem?_toArray
theorem zGB.{u} {α:Type u} (a:α) (l:List α) (i:Nat):(a::l)[i+1]? =l[i]? :=List.getElem?_cons_succ
theorem zGC.{u} {α:Type u} (a:α) (l:List α):(a::l)[0]? =some a:=List.getElem?_cons_zero
theorem zH {p:Prop} (h:p):Go.RowKit.Hid p:=h
theorem zE {α:Type} (a:α):∃x,x=a:=⟨_,rfl⟩
abbrev zC (w:World) (b o:Nat) (v:Value):Prop:=w.cell? ⟨b,o,none⟩=some v
abbrev zB (w w':World):Prop:=Go.RowKit.Below w.heap.size w w'
theorem zR (w:World):Go.RowKit.Below w.heap.size w w:=Go.RowKit.Below.refl _ _
abbrev za:=@Nat.le_refl
abbrev ze:=@decide_eq_false_iff_not
abbrev zf:=@Nat.lt_of_lt_of_le
abbrev zg:=@List.take_succ_eq_append_getElem
abbrev zh:=@List.append_assoc
abbrev zk:=@List.getElem?_eq_getElem
abbrev zl:=@Nat.le_trans
abbrev zm:=@Array.getElem?_eq_some_iff
abbrev zn:=@List.mem_map
abbrev zo:=@List.length_append
abbrev zq:=@List.mem_singleton
abbrev zv:=@beq_eq_false_iff_ne
abbrev zw:=@List.getElem_mem
abbrev zx:=@decide_eq_true_eq
abbrev zy:=@List.eq_nil_of_length_eq_zero
abbrev zz:=@List.mem_append
abbrev zA:=@decide_eq_true_iff
abbrev zD:=@if_neg
abbrev zF:=@List.map_cons
abbrev zG:=@getElem!_pos
abbrev zI:=@List.map_append
abbrev zJ:=@Array.getElem?_setIfInBounds_ne
abbrev zK:=@if_pos
abbrev zL:=@List.take_length
abbrev zM:=@List.length_map
abbrev zN:=@List.getElem?_map
abbrev zO:=@List.getElem?_append_right
abbrev zP:=@List.length_cons
abbrev zQ:=@List.filter_cons_of_neg
abbrev zS:=@List.take_append_drop
abbrev zT:=@List.getElem?_take
abbrev zU:=@List.filter_cons_of_pos
abbrev zV:=@List.size_toArray
abbrev zW:=@List.mem_cons
abbrev zX:=@List.take_of_length_le
abbrev zY:=@List.map_congr_left
abbrev zZ:=@Array.getElem?_toList
abbrev zaa:=@List.nil_append
abbrev zab:=@Array.replicate_zero
abbrev zac:=@Array.replicate_succ
abbrev zad:=@List.getElem?_eq_some_iff
abbrev zae:=@List.append_toArray
abbrev zaf:=@List.getElem?_drop
abbrev zag:=@List.length_take
abbrev zah:=@Array.getElem?_eq_none
abbrev zai:=@List.getElem?_append_left
abbrev zaj:=@Nat.zero_add
abbrev zak:=@List.not_mem_nil
abbrev zal:=@List.cons_append
abbrev zam:=@List.mem_filter
abbrev zan:=@List.push_toArray
abbrev zao:=@List.drop_eq_getElem_cons
abbrev zap:=@List.length_nil
abbrev zaq:=@Array.getElem?_setIfInBounds_self_of_lt
abbrev zar:=@List.map_toArray
abbrev zas:=@Option.map_some
abbrev zat:=@List.map_map
abbrev zau:=@List.length_filter_le
abbrev zav:=@List.drop_left'
abbrev zaw:=@List.map_nil
abbrev zax:=@List.mem_of_mem_take
abbrev zay:=@decide_eq_false
abbrev zaz:=@List.take_left'
abbrev za0:=@Nat.zero_le
abbrev za1:=@List.drop_drop
abbrev za2:=@List.length_drop
abbrev za3:=@List.nodup_append
abbrev za4:=@Nat.lt_or_ge
abbrev za5:=@Nat.add_sub_cancel_left
abbrev za6:=@List.getElem_map
abbrev za7:=@List.append_nil
abbrev za8:=@List.pairwise_iff_getElem
abbrev za9:=@List.ext_getElem?
abbrev zba:=@List.filter_append
abbrev zbb:=@List.range_succ
abbrev zbc:=@List.length_replicate
abbrev zbd:=@Bool.and_eq_true
abbrev zbe:=@List.mem_cons_self
abbrev zbf:=@List.mem_cons_of_mem
abbrev zbg:=@decide_eq_true
abbrev zbh:=@List.foldl_cons
abbrev zbi:=@List.mem_range
abbrev zbj:=@Nat.le_of_eq
abbrev zbk:=@List.flatten_cons
abbrev zbl:=@List.mem_of_getElem?
abbrev zbm:=@List.getElem?_range
abbrev zbn:=@List.getElem_cons_zero
abbrev zbo:=@List.getElem_cons_succ
abbrev zbp:=@List.length_set
abbrev zbq:=@List.flatten_nil
abbrev zbr:=@List.getElem_append_left
variable {n g k gp gd c gl i id b size s r cb mb fb cd h N m fuel j ct p B cap sz gr z gt x aL:Nat} {v c1 c2 c3 c0 c5 c4:Value} {w' W:World} {A D T:Option Addr} {a:Act} {ids q fl l rest:List Nat} {xs fs:List Value} {o oi:Oper} {listed:Array Bool} {P:Program} {e t:TypeId} {args cs' buf:Array Value} {tm:Bool}
abbrev af:=Nat->Prop
def rf (w:World) (F G:af):Prop:=∀b,G b->b<w.heap.size/\¬F b
structure aa (F F':af) (w w':World):Prop where
 os:w'.os=w.os
 tape:w'.tape=w.tape
 output:w'.output=w.output
 size:w.heap.size<=w'.heap.size
 block:∀b,b<w.heap.size->¬F b->w'.heap[b]? =w.heap[b]?
 foot:∀b,F' b->F b\/w.heap.size<=b
def bM:af:=λ_=>False
abbrev only(h:Nat):af:=λb=>b=h
section
variable {F F' F'' G:af} {w w' w'':World}
theorem aa.refl (F:af) (w:World):aa F F w w:=⟨rfl,rfl,rfl,za _,λ_ _ _=>rfl,λ_ h=>.inl h⟩
theorem aa.trans (h:aa F F' w w') (k:aa F' F'' w' w''):aa F F'' w w'':=
 ⟨k.os.trans h.os,k.tape.trans h.tape,k.output.trans h.output,zl h.size k.size,λb hb hF=>(k.block b (zf hb h.size) (λhF'=>by
  rcases h.foot b hF' with h' | h'
  ·exact hF h'
  ·omega)).trans (h.block b hb hF),
  λb hb=>by
   rcases k.foot b hb with h1 | h1
   ·exact h.foot b h1
   ·exact .inr (zl h.size h1)⟩
theorem aa.az (h:zB w w') (F:af):aa F F w w':=
 ⟨h.os,h.tape,h.output,h.size,λb hb _=>h.block b hb,λ_ hb=>.inl hb⟩
theorem aa.below (h:aa F F' w w') {n:Nat} (hn:n<=w.heap.size) (hF:∀b,F b->n<=b):Below n w w':=
 ⟨h.os,h.tape,h.output,h.size,λb hb=>h.block b (by omega) (λhf=>by have:=hF b hf;omega)⟩
theorem aa.ei (h:aa bM F' w w'):zB w w':=h.below (za _) (λ_ hb=>hb.elim)
theorem aa.keep (h:aa F F' w w') (hG:rf w F G):∀b,G b->w'.heap[b]? =w.heap[b]? :=λb hb=>h.block b (hG b hb).1 (hG b hb).2
theorem aa.apart (h:aa F F' w w') (hG:rf w F G):rf w' F' G:=λb hb=>
 ⟨zf (hG b hb).1 h.size,λhF'=>by
  rcases h.foot b hF' with h' | h'
  ·exact(hG b hb).2 h'
  ·have:=(hG b hb).1;omega⟩
theorem aa.fw {F1 F1':af} (h:aa F1 F1' w w') (hF:∀b,F1 b->F b) (hF':∀b,F' b->F b\/F1' b):aa F F' w w':=
 ⟨h.os,h.tape,h.output,h.size,λb hb hn=>h.block b hb (λh1=>hn (hF b h1)),λb hb=>by
  rcases hF' b hb with h1 | h1
  ·exact .inl h1
  ·rcases h.foot b h1 with h2 | h2
   ·exact .inl (hF b h2)
   ·exact .inr h2⟩
theorem aa.drew (h:aa F F' w w'):aa F F' w w'.drew:=⟨h.os,h.tape,h.output,h.size,h.block,h.foot⟩
theorem aa.drewN (h:aa F F' w w') (n:Nat):aa F F' w (w'.drewN n):=⟨h.os,h.tape,h.output,h.size,h.block,h.foot⟩
theorem aa.alloc (h:aa F F' w w') (o:Obj):aa F F' w (w'.alloc o):=
 ⟨h.os,h.tape,h.output,zl h.size (by simp),λb hb hn=>(Below.heap_alloc w' o b (zf hb h.size)).trans (h.block b hb hn),h.foot⟩
theorem aa.setCell (h:aa F F' w w') {p:Addr} (hp:F p.block\/w.heap.size<=p.block) (u:Value):aa F F' w (w'.setCell p u):=
 ⟨h.os,h.tape,h.output,by simpa[World.setCell] using h.size,λb hb hn=>(Below.heap_setCell w' p u b (by
  rintro rfl;rcases hp with hp | hp
  ·exact hn hp
  ·omega)).trans (h.block b hb hn),h.foot⟩
theorem aa.grown (h:aa F F' w w') {row:Option Nat} (hg:w'.grownBy w'' row) (hr:∀k,row=some k->F k\/w.heap.size<=k):aa F F' w w'':=
 ⟨hg.os.trans h.os,hg.tape.trans h.tape,hg.output.trans h.output,zl h.size hg.size,λb hb hn=>(hg.block b (zf hb h.size) (λe=>by
  rcases hr b e.symm with h1 | h1
  ·exact hn h1
  ·omega)).trans (h.block b hb hn),h.foot⟩
theorem aa.next (h:aa F F' w w') (hb:zB w' w''):aa F F' w w'':=h.trans (aa.az hb F')
theorem rf.below (h:rf w F G) (hb:w.heap.size<=w'.heap.size):rf w' F G:=λb hG=>⟨zf (h b hG).1 hb,(h b hG).2⟩
end
def aj (w:World) (g:Nat) (t:TypeId) (cs:Array Value):Prop:=w.heap[g]? =some (.cells cs t (0,0))
section
variable {w w':World} {g:Nat} {t:TypeId} {cs:Array Value}
theorem aj.lt (h:aj w g t cs):g<w.heap.size:=by
 rcases za4 g w.heap.size with hlt | hge
 ·exact hlt
 ·unfold aj at h;rw[zah hge] at h;cases h
theorem aj.cell (h:aj w g t cs) (i:Nat):w.cell? ⟨g,i,none⟩=cs[i]? :=cell_of_row w g i cs t (0,0) h
theorem aj.frozen (h:aj w g t cs) (i:Nat):w.frozen? ⟨g,i,none⟩=false:=by
 unfold aj at h;simp[World.frozen?,h]
theorem aj.new (w:World) (t:TypeId) (cs:Array Value):aj (w.alloc (.cells cs t)) w.heap.size t cs:=heap_alloc_new w _
theorem aj.drew (h:aj w g t cs):aj w.drew g t cs:=h
theorem aj.drewN (h:aj w g t cs) (n:Nat):aj (w.drewN n) g t cs:=h
theorem aj.alloc (h:aj w g t cs) (o:Obj):aj (w.alloc o) g t cs:=(Below.heap_alloc w o g h.lt).trans h
theorem aj.a_ (h:aj w g t cs) (i:Nat) (u:Value):aj (w.setCell ⟨g,i,none⟩ u) g t (cs.setIfInBounds i u):=by
 unfold aj at h ⊢;simp[World.setCell,Array.getElem?_modify,h]
theorem aj.far (h:aj w g t cs) {p:Addr} (hp:g≠p.block) (u:Value):aj (w.setCell p u) g t cs:=(Below.heap_setCell w p u g hp).trans h
theorem aj.below (h:aj w g t cs) (hb:Below B w w') (hg:g<B):aj w' g t cs:=(hb.block g hg).trans h
theorem aj.keep (h:aj w g t cs) (hk:w'.heap[g]? =w.heap[g]?):aj w' g t cs:=hk.trans h
theorem aj.turns {F F':af} (h:aj w g t cs) (hb:aa F F' w w') (hg:¬F g):aj w' g t cs:=(hb.block g h.lt hg).trans h
theorem aj.grown {row:Option Nat} (h:aj w g t cs) (hb:w.grownBy w' row) (hg:some g≠row):aj w' g t cs:=(hb.block g h.lt hg).trans h
theorem aj.Tq {g':Nat} {t':TypeId} (h:aj w g t cs) (h':aj w g' t' cs') (hne:t≠t'):g≠g':=by
 rintro rfl;unfold aj at h h';rw[h] at h';injection h' with h';injection h' with _ ht;exact hne ht
end
theorem aj.setRow {w:World} {g:Nat} {t:TypeId} {cs:Array Value} (h:aj w g t cs) (cs':Array Value):aj (w.setRow g cs') g t cs':=setRow_heap w g cs cs' t _ h
theorem ak (w:World) (g k:Nat) (cs:Array Value) (h:k≠g):(w.setRow g cs).heap[k]? =w.heap[k]? :=setRow_other w g k cs h
theorem aa.setRow {F F':af} {w w':World} (h:aa F F' w w') {g:Nat} (hp:F g\/w.heap.size<=g) (cs:Array Value):aa F F' w (w'.setRow g cs):=
 ⟨h.os,h.tape,h.output,by simpa using h.size,λb hb hn=>(ak w' g b cs (by
  rintro rfl;rcases hp with hp | hp
  ·exact hn hp
  ·omega)).trans (h.block b hb hn),h.foot⟩
theorem below_setRow {a w:World} (h:Below B a w) {g:Nat} (hp:B<=g) (cs:Array Value):Below B a (w.setRow g cs):=
 ⟨h.os,h.tape,h.output,by simpa using h.size,λb hb=>(ak w g b cs (by omega)).trans (h.block b hb)⟩
theorem ej {w1:World} (hb:zB W w1):(∀b o,b<W.heap.size->w1.cell? ⟨b,o,none⟩=W.cell? ⟨b,o,none⟩)/\(∀b o,b<W.heap.size->w1.frozen? ⟨b,o,none⟩=W.frozen? ⟨b,o,none⟩):=
 ⟨λb o h=>hb.cell (p:=⟨b,o,none⟩) h,λb o h=>hb.frozen (p:=⟨b,o,none⟩) h⟩
def Reads (G:af) (w:World) (size:Nat) (A:Option Addr) (n:Nat) (xs:List Value):Prop:=
 xs.length=n*size/\(0<n->∃b o,A=some ⟨b,o,none⟩/\G b/\b<w.heap.size/\∀j u,xs[j]? =some u->w.cell? ⟨b,o+j,none⟩=some u)
section
variable {G:af} {w w':World} {size n:Nat} {A:Option Addr} {xs:List Value}
theorem Reads.none_:Reads G w size A 0 []:=⟨by simp,λh=>absurd h (by omega)⟩
theorem Reads.zero:Reads G w size A 0 xs↔xs=[]:=⟨λh=>zy (by simpa using h.1),λh=>h▸Reads.none_⟩
theorem Reads.keep (h:Reads G w size A n xs) (hs:w.heap.size<=w'.heap.size) (hk:∀b,G b->w'.heap[b]? =w.heap[b]?):Reads G w' size A n xs:=
 ⟨h.1,λhn=>by
  obtain⟨b,o,e,hG,hlt,hc⟩:=h.2 hn;exact⟨b,o,e,hG,zf hlt hs,λj u hu=>(World.cell?_of_block (w:=w) (a:=⟨b,o+j,none⟩) (hk b hG)).trans (hc j u hu)⟩⟩
theorem Reads.below (h:Reads G w size A n xs) (hb:zB w w'):Reads G w' size A n xs:=
 ⟨h.1,λhn=>by
  obtain⟨b,o,e,hG,hlt,hc⟩:=h.2 hn;exact⟨b,o,e,hG,zf hlt hb.size,λj u hu=>(hb.cell (p:=⟨b,o+j,none⟩) hlt).trans (hc j u hu)⟩⟩
theorem Reads.turns {F F':af} (h:Reads G w size A n xs) (ht:aa F F' w w') (hG:rf w F G):Reads G w' size A n xs:=h.keep ht.size (ht.keep hG)
theorem Reads.mono {G':af} (h:Reads G w size A n xs) (hG:∀b,G b->G' b):Reads G' w size A n xs:=
 ⟨h.1,λhn=>by
  obtain⟨b,o,e,I2,hlt,hc⟩:=h.2 hn;exact⟨b,o,e,hG b I2,hlt,hc⟩⟩
theorem Reads.at_ (h:Reads G w 1 A n xs) (hk:k<n):∃b o u,A=some ⟨b,o,none⟩/\G b/\b<w.heap.size/\xs[k]? =some u/\w.cell? ⟨b,o+k,none⟩=some u:=by
 obtain⟨b,o,e,hG,hb,hc⟩:=h.2 (by omega);have hl:k<xs.length:=by have:=h.1;omega
 exact⟨b,o,xs[k],e,hG,hb,zk hl,hc k _ (zk hl)⟩
end
def strCells (l:List ByteArray):List Value:=l.map Value.string
section
variable {P:Program} {ops:Array Oper} {Q:Exit->Act->World->Prop} {md:Region.Mode} {S:World->Prop} {X:Nat->Bool}
def bh (P:Program) (md:Region.Mode) (ops:Array Oper) (Q:Exit->Act->World->Prop) (S:World->Prop) (X:Nat->Bool):Nat->Array Bool->Act->World->Prop
 | 0,listed,a,w=>Region.ready md ops listed=[]/\Q .normal a w
 | fuel+1,listed,a,w=>
  (Region.ready md ops listed=[]->Q .normal a w)/\
  ∀i∈Region.ready md ops listed,wpOp P ops Q i (λa' w'=>(X i=false->S w')/\bh P md ops Q S X fuel (listed.setIfInBounds i true) a' w') a w
theorem wS:∀(fuel:Nat) (listed:Array Bool) (a:Act) (w:World),bh P md ops Q S X fuel listed a w->wpAny P md ops Q fuel listed a w
 | 0,_,_,_,h=>h
 | fuel+1,_,_,_,h=>⟨h.1,λi hi=>wpOp_mono (λa' w' h'=>wS fuel _ a' w' h'.2) (h.2 i hi)⟩
theorem r5 (hi:ops[i]? =some oi) (hsel:∀(j:Nat) (o:Oper) cs b,ops[j]? =some o->o.op≠.select cs b)
 (hQ:∀c a w,Q (.panic c) (a.put oi.dst v) w->Q (.panic c) a w) (hXi:X i=false)
 (hX:∀j oj,ops[j]? =some oj->X j=true->∃e∈oj.after,Region.binds md e=true/\e.on=i):
 ∀(fuel:Nat) (listed:Array Bool) (a:Act) (w:World),
  (∀j oj,ops[j]? =some oj->j≠i->listed.getD j true=false->(∀e∈oj.after,Region.binds md e=true->e.on≠i)->oi.apart ops oj=true)->
  i∈Region.ready md ops listed->YieldsIf P ops S oi v a->S w->
  bh P md ops Q S X fuel (listed.setIfInBounds i true) (a.put oi.dst v) w->bh P md ops Q S X (fuel+1) listed a w:=by
 intro fuel
 induction fuel with
 | zero=>
  intro listed a w _ hr hy hS H;refine⟨λh=>(by rw[h] at hr;cases hr),λj hj=>?_⟩;by_cases hji:j=i
  ·subst hji;exact hy.wpOp hi hS ⟨λ_=>hS,H⟩
  ·have:=ready_mono hj hji;rw[H.1] at this
   cases this
 | succ fuel ih=>
  intro listed a w hfree hr hy hS H;refine⟨λh=>(by rw[h] at hr;cases hr),λj hj=>?_⟩;by_cases hji:j=i
  ·subst hji;exact hy.wpOp hi hS ⟨λ_=>hS,H⟩
  ·have h1:=H.2 j (ready_mono hj hji);obtain⟨C7,oj,Kl,hall⟩:=mem_ready.1 hj;have hnot:∀e∈oj.after,Region.binds md e=true->e.on≠i:=λe he hb heq=>by
    have h1:=hall e he hb;have h0:=(mem_ready.1 hr).1;rw[heq] at h1;rcases za4 i listed.size with h' | h'
    ·simp[h'] at h0 h1;rw[h0] at h1;cases h1
    ·simp[zah h'] at h1
   have hXj:X j=false:=by
    cases hx:X j with
    | false=>rfl
    | true=>
     obtain⟨e,he,hb,vF⟩:=hX j oj Kl hx;exact absurd vF (hnot e he hb)
   have h2:=wpOp_putIf Kl (hfree j oj Kl hji C7 hnot) (λcs b=>hsel i oi cs b hi) (λcs b=>hsel j oj cs b Kl) hQ hy h1;have yy:∀k ok,ops[k]? =some ok->k≠i->(listed.setIfInBounds j true).getD k true=false->
    (∀e∈ok.after,Region.binds md e=true->e.on≠i)->oi.apart ops ok=true:=λk ok hk hki hun hno=>by
    refine hfree k ok hk hki ?_ hno;by_cases hjk:j=k
    ·subst hjk;exact C7
    ·rw[getD_set_ne true hjk] at hun;exact hun
   refine wpOp_mono (λa' w' h3=>⟨h3.2.1,ih (listed.setIfInBounds j true) a' w' yy (ready_mono hr (Ne.symm hji)) h3.1 (h3.2.1 hXj) ?_⟩) h2;rw[Array.setIfInBounds_comm _ _ hji];exact h3.2.2
def tF (md:Region.Mode) (ops:Array Oper) (X:Nat->Bool) (i:Nat):Bool:=
 !X i&&(List.range ops.size).all λj=> !X j||(match ops[j]? with | some o=>o.after.any λe=>Region.binds md e&&e.on==i | none=>true)
theorem j9 (h:tF md ops X i=true):X i=false/\∀j oj,ops[j]? =some oj->X j=true->∃e∈oj.after,Region.binds md e=true/\e.on=i:=by
 unfold tF at h;rw[zbd,List.all_eq_true] at h;refine⟨by simpa using h.1,λj oj hj hx=>?_⟩;have hlt:j<ops.size:=(zm.1 hj).1;have h2:=h.2 j (zbi.2 hlt);simp only[hx,hj,Bool.not_true,Bool.false_or] at h2;obtain⟨e,he,hb⟩:=Array.any_eq_true'.1 h2;rw[zbd] at hb;exact⟨e,he,hb.1,by simpa using hb.2⟩
theorem eV (S:World->Prop) (X:Nat->Bool) {w:World} (hm:P.follows .mixedOrders=true)
 (h:bh P .any ops Q S X ops.size (Array.replicate ops.size false) a w.drew):(Code.region id ops true).wp P Q a w:=
 wp_region_any hm (wS _ _ _ _ h)
theorem Zl (i:Nat) (t:Tmp) {w:World} (hi:ops[i]? =some oi) (hd:oi.dst=some t)
 (hw:Region.wanted oi (yielded ops a.tmps)=true)
 (hb:(Region.noSelect ops&&Region.free md ops listed i&&(Region.ready md ops listed).contains i&&tF md ops X i)=true)
 (hQ:∀c a w,Q (.panic c) (a.put (some t) v) w->Q (.panic c) a w) (hS:S w) (hy:∀w,S w->(execOp a.eval oi).run P w=.ok (.value v) w)
 (h:bh P md ops Q S X fuel (listed.setIfInBounds i true) {tmps:=a.tmps.setIfInBounds t v,defers:=a.defers} w):bh P md ops Q S X (fuel+1) listed a w:=by
 simp only[zbd] at hb;obtain⟨⟨⟨hs,hf⟩,hr⟩,hx⟩:=hb;exact r5 hi (Region.noSelect_spec hs) (by rw[hd];exact hQ) (j9 hx).1 (j9 hx).2 fuel listed a w (Region.free_spec hi hf) (by simpa using hr) (.inl ⟨hw,hy⟩) hS (by rw[hd];exact h)
theorem eP (i:Nat) (t:Tmp) {w:World} (hi:ops[i]? =some oi) (hd:oi.dst=some t)
 (hw:Region.wanted oi (yielded ops a.tmps)=false)
 (hb:(Region.noSelect ops&&Region.free md ops listed i&&(Region.ready md ops listed).contains i&&tF md ops X i)=true)
 (hQ:∀c a w,Q (.panic c) (a.put (some t) undef) w->Q (.panic c) a w) (hS:S w)
 (h:bh P md ops Q S X fuel (listed.setIfInBounds i true) {tmps:=a.tmps.setIfInBounds t undef,defers:=a.defers} w):bh P md ops Q S X (fuel+1) listed a w:=by
 simp only[zbd] at hb;obtain⟨⟨⟨hs,hf⟩,hr⟩,hx⟩:=hb;exact r5 hi (Region.noSelect_spec hs) (by rw[hd];exact hQ) (j9 hx).1 (j9 hx).2 fuel listed a w (Region.free_spec hi hf) (by simpa using hr) (.inr ⟨hw,rfl⟩) hS (by rw[hd];exact h)
theorem jf (i:Nat) {w:World} (hi:ops[i]? =some oi)
 (hw:Region.wanted oi (yielded ops a.tmps)=true) (hr:Region.ready md ops listed=[i])
 (h:Oper.wp P oi a w (λa' w'=>(X i=false->S w')/\bh P md ops Q S X fuel (listed.setIfInBounds i true) a' w') Q):bh P md ops Q S X (fuel+1) listed a w:=
 ⟨λh0=>absurd (hr▸h0) (by simp),by
  rw[hr];intro j hj;rw[zq.1 hj];unfold wpOp;simp only[hi];rw[zK hw];exact .inl h⟩
theorem gR {rs:List Nat} {w:World} (hr:Region.ready md ops listed=rs) (hne:rs≠[])
 (h:∀i∈rs,wpOp P ops Q i (λa' w'=>(X i=false->S w')/\bh P md ops Q S X fuel (listed.setIfInBounds i true) a' w') a w):bh P md ops Q S X (fuel+1) listed a w:=
 ⟨λh0=>absurd (hr▸h0) hne,by rw[hr];exact h⟩
theorem cN (t:Tmp) {w:World} {K:Act->World->Prop} (hi:ops[i]? =some oi) (hd:oi.dst=some t)
 (hw:Region.wanted oi (yielded ops a.tmps)=true) (hy:(execOp a.eval oi).run P w=.ok (.value v) w') (h:K {tmps:=a.tmps.setIfInBounds t v,defers:=a.defers} w'):wpOp P ops Q i K a w:=by
 unfold wpOp;simp only[hi];rw[zK hw];refine .inl ?_;unfold Oper.wp;rw[hy];show K (a.put oi.dst v) w';rw[hd];exact h
theorem R_run (i:Nat) (t:Tmp) {w:World} (hi:ops[i]? =some oi) (hd:oi.dst=some t)
 (hw:Region.wanted oi (yielded ops a.tmps)=true) (hr:Region.ready md ops listed=[i])
 (hy:(execOp a.eval oi).run P w=.ok (.value v) w') (hS:X i=false->S w')
 (h:bh P md ops Q S X fuel (listed.setIfInBounds i true) {tmps:=a.tmps.setIfInBounds t v,defers:=a.defers} w'):bh P md ops Q S X (fuel+1) listed a w:=
 jf i hi hw hr (by unfold Oper.wp;rw[hy];exact⟨hS,by rw[hd];exact h⟩)
theorem qZ (t:Tmp) {d:Option Tmp} {w:World} (hd:d=some t)
 (h:bh P md ops Q S X fuel listed {tmps:=a.tmps.setIfInBounds t v,defers:=a.defers} w):bh P md ops Q S X fuel listed (a.put d v) w:=by subst hd;exact h
theorem KT (i:Nat) {w:World} {n:Next} (hi:ops[i]? =some oi) (hd:oi.dst=none)
 (hw:Region.wanted oi (yielded ops a.tmps)=true) (hr:Region.ready md ops listed=[i])
 (hy:(execOp a.eval oi).run P w=.ok n w') (hn:n=.skip\/∃v,n=.value v) (hS:X i=false->S w')
 (h:bh P md ops Q S X fuel (listed.setIfInBounds i true) a w'):bh P md ops Q S X (fuel+1) listed a w:=
 jf i hi hw hr (by
  unfold Oper.wp;rw[hy];rcases hn with rfl | ⟨v,rfl⟩
  ·exact⟨hS,by rw[hd];exact h⟩
  ·exact⟨hS,by rw[hd];exact h⟩)
theorem aI (i:Nat) (t:Tmp) {f:FuncId} {R:Ending->World->Prop} {w:World} (hi:ops[i]? =some oi) (hd:oi.dst=some t)
 (hw:Region.wanted oi (yielded ops a.tmps)=true) (hr:Region.ready md ops listed=[i])
 (hy:(execOp a.eval oi).run P w=.ok (.enter f args) w') (hc:Calls P f args w' R)
 (h:∀e w'',R e w''->∃v,e=.returned v/\(X i=false->S w'')/\bh P md ops Q S X fuel (listed.setIfInBounds i true) {tmps:=a.tmps.setIfInBounds t v,defers:=a.defers} w''):bh P md ops Q S X (fuel+1) listed a w:=
 jf i hi hw hr (by
  unfold Oper.wp;rw[hy];refine hc.mono λe w'' hR=>?_;obtain⟨v,rfl,h1,h2⟩:=h e w'' hR;exact⟨h1,by rw[hd];exact h2⟩)
theorem aC {w:World} (hr:Region.ready md ops listed=[]) (h:Q .normal a w):
 ∀fuel,bh P md ops Q S X fuel listed a w
 | 0=>⟨hr,h⟩
 | _+1=>⟨λ_=>h,by rw[hr];simp⟩
end
theorem aY {P:Program} {ops:Array Oper} {Q:Exit->Act->World->Prop} (t:Tmp) {rest:List Oper} {w:World} (hd:o.dst=some t) (hgd:o.guard=none)
 (h:(execOp a.eval o).run P w=.ok (.value v) w') (k:wpList P ops Q rest {tmps:=a.tmps.setIfInBounds t v,defers:=a.defers} w'):wpList P ops Q (o::rest) a w:=
 wpList_plain hgd λK hK=>by
  unfold Oper.wp;rw[h];refine hK _ _ ?_;rw[hd];exact k
theorem wpList_skip {P:Program} {ops:Array Oper} {Q:Exit->Act->World->Prop} {rest:List Oper} {w:World} (hd:o.dst=none) (hgd:o.guard=none)
 (h:(execOp a.eval o).run P w=.ok .skip w') (k:wpList P ops Q rest a w'):wpList P ops Q (o::rest) a w:=
 wpList_plain hgd λK hK=>by
  unfold Oper.wp;rw[h];refine hK _ _ ?_;rw[hd];exact k
theorem CC {P:Program} {w:World} {x:Value} {lo hi:Option Value} (t:TypeId) (x':Operand) (l' h':Option Operand) (ho:o.op=.slice t x' l' h' none) (hx:a.eval x'=x) (hl:l'.map a.eval=lo) (hh:h'.map a.eval=hi)
 (h:(Instr.sliceAt t x lo hi none).run P w=.ok v w'):(execOp a.eval o).run P w=.ok (.value v) w':=by
 subst hx hl hh;unfold execOp;simp only[ho,Sem.run_bind,Option.map_none,h,Result.andThen_ok,Sem.run_pure]
theorem jX {P:Program} {w:World} (t:TypeId) (i:TypeInfo) (z:Value) (Z:Array Value) (ho:o.op=.alloc t) (hi:P.info? t=some i) (hz:i.zero=some z) (hZ:z.cells=Z):
 (execOp a.eval o).run P w=.ok (.value (.pointer (some ⟨w.heap.size,0,none⟩))) (w.alloc (.cells Z t)):=by
 subst hZ;unfold execOp;simp[ho,Instr.alloc,zeroValue,typeInfo,hi,hz,newVar,newRow]
theorem ay {P:Program} {w:World} (t:TypeId) (x:Operand) (p:Addr) (ho:o.op=.load t x) (he:a.eval x=.pointer (some p))
 (h:(loadVar t p).run P w=.ok v w):(execOp a.eval o).run P w=.ok (.value v) w:=by
 unfold execOp;simp only[ho,he,Instr.loadAt,Instr.sureAddr,Sem.run_bind,Sem.run_pure,Result.andThen_ok,h]
theorem aq {P:Program} {w:World} (t:TypeId) (x y:Operand) (p:Addr) (v:Value) (ho:o.op=.store t x y) (he:a.eval x=.pointer (some p)) (hv:a.eval y=v)
 (h:(storeVar t p v).run P w=.ok () w'):(execOp a.eval o).run P w=.ok .skip w':=by
 unfold execOp;simp only[ho,he,hv,Instr.storeAt,Instr.sureAddr,Sem.run_bind,Sem.run_pure,Result.andThen_ok,h]
theorem si {P:Program} {w:World} (t:TypeId) (parts:Array (Nat×Operand)) (vs:Array (Nat×Value)) (ho:o.op=.build t parts) (he:(parts.toList.map λx=>(x.1,a.eval x.2))=vs.toList)
 (h:(Instr.build t vs).run P w=.ok v w'):(execOp a.eval o).run P w=.ok (.value v) w':=by
 have he':(parts.map fun(i,x)=>(i,a.eval x))=vs:=Array.toList_inj.1 (by rw[Array.toList_map];exact he);subst he';unfold execOp;simp only[ho,Sem.run_bind,h,Result.andThen_ok,Sem.run_pure]
theorem sg {P:Program} {w:World} (t:TypeId) (n:Nat) (parts:Array (Nat×Operand)) (vs:Array (Nat×Value)) (ho:o.op=.buildSlice t n parts) (he:(parts.toList.map λx=>(x.1,a.eval x.2))=vs.toList)
 (h:(Instr.buildSlice t n vs).run P w=.ok v w'):(execOp a.eval o).run P w=.ok (.value v) w':=by
 have he':(parts.map fun(i,x)=>(i,a.eval x))=vs:=Array.toList_inj.1 (by rw[Array.toList_map];exact he);subst he';unfold execOp;simp only[ho,Sem.run_bind,h,Result.andThen_ok,Sem.run_pure]
section
variable {P:Program} {ops:Array Oper} {Q:Exit->Act->World->Prop} {md:Region.Mode} {S:World->Prop} {X:Nat->Bool}
theorem kS (i:Nat) (t:Tmp) {w:World} (hS:S w)
 (h:bh P md ops Q S X fuel (listed.setIfInBounds i true) {tmps:=a.tmps.setIfInBounds t v,defers:=a.defers} w)
 (hi:ops[i]? =some oi:=by rfl) (hd:oi.dst=some t:=by rfl)
 (hw:Region.wanted oi (yielded ops a.tmps)=true:=by rfl)
 (hb:(Region.noSelect ops&&Region.free md ops listed i&&(Region.ready md ops listed).contains i&&tF md ops X i)=true:=by kernel_rfl)
 (hQ:∀c a w,Q (.panic c) (a.put (some t) v) w->Q (.panic c) a w:=by exact λ_ _ _ h=>h)
 (hy:∀w,S w->(execOp a.eval oi).run P w=.ok (.value v) w:=by intro w hSw;(try dsimp only at hSw);(try simp only[zSA,zSB,zSC]);go_simp;(try with_reducible rfl)):
 bh P md ops Q S X (fuel+1) listed a w:=Zl i t hi hd hw hb hQ hS hy h
end
def Br (md:Region.Mode) (ops:Array Oper) (listed:Array Bool) (i:Nat):List Nat:=
 (List.range ops.size).foldl (λT j=>if(!(listed.getD j true)&&(match ops[j]? with | some o=>o.after.any λe=>Region.binds md e&&(e.on==i||T.contains e.on) | none=>false))=true then j::T else T) []
def mN (md:Region.Mode) (ops:Array Oper) (listed:Array Bool) (X:Nat->Bool) (i:Nat):Bool:=
 !X i&&((List.range ops.size).all λj=> !X j||listed.getD j false||(Br md ops listed i).contains j)&&
  (Br md ops listed i).all λj=> !(listed.getD j true)&&(match ops[j]? with | some o=>o.after.any λe=>Region.binds md e&&(e.on==i||(Br md ops listed i).contains e.on) | none=>false)
theorem Bg {ops:Array Oper} {md:Region.Mode} {X:Nat->Bool} (h:mN md ops listed X i=true):
 X i=false/\(∀j oj,ops[j]? =some oj->X j=true->listed.getD j false=true\/j∈Br md ops listed i)/\
  ∀j∈Br md ops listed i,listed.getD j true=false/\∃oj,ops[j]? =some oj/\∃e∈oj.after,Region.binds md e=true/\(e.on=i\/e.on∈Br md ops listed i):=by
 unfold mN at h;rw[zbd,zbd,List.all_eq_true,List.all_eq_true] at h;obtain⟨⟨h1,h2⟩,h3⟩:=h;refine⟨by simpa using h1,λj oj hj hx=>?_,λj hj=>?_⟩
 ·have hlt:j<ops.size:=(zm.1 hj).1;have:=h2 j (zbi.2 hlt);rw[hx,Bool.not_true,Bool.false_or,Bool.or_eq_true] at this;exact this.imp id (λh=>by simpa using h)
 ·have h4:=h3 j hj;rw[zbd] at h4;refine⟨by simpa using h4.1,?_⟩
  cases ho:ops[j]? with
  | none=>rw[ho] at h4;exact absurd h4.2 (by simp)
  | some o=>
   rw[ho] at h4;refine⟨o,rfl,?_⟩;obtain⟨e,he,hb⟩:=Array.any_eq_true'.1 h4.2;rw[zbd,Bool.or_eq_true] at hb;refine⟨e,he,hb.1,?_⟩;rcases hb.2 with h5 | h5
   ·exact .inl (by simpa using h5)
   ·exact .inr (by simpa using h5)
section
variable {P:Program} {ops:Array Oper} {Q:Exit->Act->World->Prop} {md:Region.Mode} {S:World->Prop} {X:Nat->Bool}
theorem Af {T:List Nat} (hi:ops[i]? =some oi) (hsel:∀(j:Nat) (o:Oper) cs b,ops[j]? =some o->o.op≠.select cs b)
 (hQ:∀c a w,Q (.panic c) (a.put oi.dst v) w->Q (.panic c) a w) (hXi:X i=false)
 :
 ∀(fuel:Nat) (listed:Array Bool) (a:Act) (w:World),
  (∀j oj,ops[j]? =some oj->X j=true->listed.getD j false=true\/j∈T)->
  (∀j∈T,listed.getD j true=false/\∃oj,ops[j]? =some oj/\∃e∈oj.after,Region.binds md e=true/\(e.on=i\/e.on∈T))->
  (∀j oj,ops[j]? =some oj->j≠i->listed.getD j true=false->(∀e∈oj.after,Region.binds md e=true->e.on≠i)->oi.apart ops oj=true)->
  i∈Region.ready md ops listed->YieldsIf P ops S oi v a->S w->
  bh P md ops Q S X fuel (listed.setIfInBounds i true) (a.put oi.dst v) w->bh P md ops Q S X (fuel+1) listed a w:=by
 intro fuel
 induction fuel with
 | zero=>
  intro listed a w _ _ _ hr hy hS H;refine⟨λh=>(by rw[h] at hr;cases hr),λj hj=>?_⟩;by_cases hji:j=i
  ·subst hji;exact hy.wpOp hi hS ⟨λ_=>hS,H⟩
  ·have:=ready_mono hj hji;rw[H.1] at this
   cases this
 | succ fuel ih=>
  intro listed a w hX hT hfree hr hy hS H;have hun:∀k,listed.getD k true=false->listed.getD k false=true->False:=λk h0 h1=>by
   rcases za4 k listed.size with h' | h'
   ·simp[h'] at h0 h1;rw[h0] at h1;cases h1
   ·simp[zah h'] at h1
  refine⟨λh=>(by rw[h] at hr;cases hr),λj hj=>?_⟩;by_cases hji:j=i
  ·subst hji;exact hy.wpOp hi hS ⟨λ_=>hS,H⟩
  ·have h1:=H.2 j (ready_mono hj hji);obtain⟨C7,oj,Kl,hall⟩:=mem_ready.1 hj;have hnot:∀e∈oj.after,Region.binds md e=true->e.on≠i:=λe he hb heq=>by
    have h1:=hall e he hb;rw[heq] at h1;exact hun i (mem_ready.1 hr).1 h1
   have hnT:j∉T:=λhjT=>by
    obtain⟨_,oj',TY,e,he,hb,vF⟩:=hT j hjT;rw[Kl] at TY;injection TY with TY;subst TY;have h1:=hall e he hb;rcases vF with vF | vF
    ·exact hnot e he hb vF
    ·exact hun _ (hT _ vF).1 h1
   have hXj:X j=false:=by
    cases hx:X j with
    | false=>rfl
    | true=>
     rcases hX j oj Kl hx with h | h
     ·exact(hun j C7 h).elim
     ·exact absurd h hnT
   have h2:=wpOp_putIf Kl (hfree j oj Kl hji C7 hnot) (λcs b=>hsel i oi cs b hi) (λcs b=>hsel j oj cs b Kl) hQ hy h1;have yy:∀k ok,ops[k]? =some ok->k≠i->(listed.setIfInBounds j true).getD k true=false->
    (∀e∈ok.after,Region.binds md e=true->e.on≠i)->oi.apart ops ok=true:=λk ok hk hki hun hno=>by
    refine hfree k ok hk hki ?_ hno;by_cases hjk:j=k
    ·subst hjk;exact C7
    ·rw[getD_set_ne true hjk] at hun;exact hun
   have hT':∀k∈T,(listed.setIfInBounds j true).getD k true=false/\∃oj,ops[k]? =some oj/\∃e∈oj.after,Region.binds md e=true/\(e.on=i\/e.on∈T):=λk hk=>by
    refine⟨?_,(hT k hk).2⟩;rw[getD_set_ne true (λe=>hnT (by rw[e];exact hk))];exact(hT k hk).1
   have hX':∀k ok,ops[k]? =some ok->X k=true->(listed.setIfInBounds j true).getD k false=true\/k∈T:=λk ok hk hx=>by
    by_cases hjk:j=k
    ·subst hjk;rw[hXj] at hx;cases hx
    ·rw[getD_set_ne false hjk];exact hX k ok hk hx
   refine wpOp_mono (λa' w' h3=>⟨h3.2.1,ih (listed.setIfInBounds j true) a' w' hX' hT' yy (ready_mono hr (Ne.symm hji)) h3.1 (h3.2.1 hXj) ?_⟩) h2;rw[Array.setIfInBounds_comm _ _ hji];exact h3.2.2
theorem RT (i:Nat) (t:Tmp) {w:World} (hS:S w)
 (h:bh P md ops Q S X fuel (listed.setIfInBounds i true) {tmps:=a.tmps.setIfInBounds t v,defers:=a.defers} w)
 (hi:ops[i]? =some oi:=by rfl) (hd:oi.dst=some t:=by rfl)
 (hw:Region.wanted oi (yielded ops a.tmps)=true:=by rfl)
 (hb:(Region.noSelect ops&&Region.free md ops listed i&&(Region.ready md ops listed).contains i&&mN md ops listed X i)=true:=by kernel_rfl)
 (hQ:∀c a w,Q (.panic c) (a.put (some t) v) w->Q (.panic c) a w:=by exact λ_ _ _ h=>h)
 (hy:∀w,S w->(execOp a.eval oi).run P w=.ok (.value v) w:=by intro w hSw;(try dsimp only at hSw);(try simp only[zSA,zSB,zSC]);go_simp;(try with_reducible rfl)):
 bh P md ops Q S X (fuel+1) listed a w:=by
 simp only[zbd] at hb;obtain⟨⟨⟨hs,hf⟩,hr⟩,hx⟩:=hb;obtain⟨h1,h2,h3⟩:=Bg hx;exact Af hi (Region.noSelect_spec hs) (by rw[hd];exact hQ) h1 fuel listed a w h2 h3 (Region.free_spec hi hf) (by simpa using hr) (.inl ⟨hw,hy⟩) hS (by rw[hd];exact h)
theorem Eg (hi:ops[i]? =some oi) (hsel:∀(j:Nat) (o:Oper) cs b,ops[j]? =some o->o.op≠.select cs b)
 (hQ:∀c a w,Q (.panic c) (a.put oi.dst v) w->Q (.panic c) a w) (hXi:X i=true):
 ∀(fuel:Nat) (listed:Array Bool) (a:Act) (w:World),
  (∀j oj,ops[j]? =some oj->j≠i->listed.getD j true=false->(∀e∈oj.after,Region.binds md e=true->e.on≠i)->oi.apart ops oj=true)->
  i∈Region.ready md ops listed->YieldsIf P ops (λ_=>True) oi v a->
  bh P md ops Q S X fuel (listed.setIfInBounds i true) (a.put oi.dst v) w->bh P md ops Q S X (fuel+1) listed a w:=by
 intro fuel
 induction fuel with
 | zero=>
  intro listed a w _ hr hy H;refine⟨λh=>(by rw[h] at hr;cases hr),λj hj=>?_⟩;by_cases hji:j=i
  ·subst hji;exact hy.wpOp hi trivial ⟨λh=>absurd h (by rw[hXi];decide),H⟩
  ·have:=ready_mono hj hji;rw[H.1] at this
   cases this
 | succ fuel ih=>
  intro listed a w hfree hr hy H;have hun:∀k,listed.getD k true=false->listed.getD k false=true->False:=λk h0 h1=>by
   rcases za4 k listed.size with h' | h'
   ·simp[h'] at h0 h1;rw[h0] at h1;cases h1
   ·simp[zah h'] at h1
  refine⟨λh=>(by rw[h] at hr;cases hr),λj hj=>?_⟩;by_cases hji:j=i
  ·subst hji;exact hy.wpOp hi trivial ⟨λh=>absurd h (by rw[hXi];decide),H⟩
  ·have h1:=H.2 j (ready_mono hj hji);obtain⟨C7,oj,Kl,hall⟩:=mem_ready.1 hj;have hnot:∀e∈oj.after,Region.binds md e=true->e.on≠i:=λe he hb heq=>by
    have h1:=hall e he hb;rw[heq] at h1;exact hun i (mem_ready.1 hr).1 h1
   have h2:=wpOp_putIf Kl (hfree j oj Kl hji C7 hnot) (λcs b=>hsel i oi cs b hi) (λcs b=>hsel j oj cs b Kl) hQ hy h1;have yy:∀k ok,ops[k]? =some ok->k≠i->(listed.setIfInBounds j true).getD k true=false->
    (∀e∈ok.after,Region.binds md e=true->e.on≠i)->oi.apart ops ok=true:=λk ok hk hki hun hno=>by
    refine hfree k ok hk hki ?_ hno;by_cases hjk:j=k
    ·subst hjk;exact C7
    ·rw[getD_set_ne true hjk] at hun;exact hun
   refine wpOp_mono (λa' w' h3=>⟨h3.2.1,ih (listed.setIfInBounds j true) a' w' yy (ready_mono hr (Ne.symm hji)) h3.1 ?_⟩) h2;rw[Array.setIfInBounds_comm _ _ hji];exact h3.2.2
theorem R_pp (i:Nat) (t:Tmp) {w:World}
 (h:bh P md ops Q S X fuel (listed.setIfInBounds i true) {tmps:=a.tmps.setIfInBounds t v,defers:=a.defers} w)
 (hi:ops[i]? =some oi:=by rfl) (hd:oi.dst=some t:=by rfl)
 (hw:Region.wanted oi (yielded ops a.tmps)=true:=by rfl)
 (hb:(Region.noSelect ops&&Region.free md ops listed i&&(Region.ready md ops listed).contains i&&X i)=true:=by kernel_rfl)
 (hQ:∀c a w,Q (.panic c) (a.put (some t) v) w->Q (.panic c) a w:=by exact λ_ _ _ h=>h)
 (hy:∀w,True->(execOp a.eval oi).run P w=.ok (.value v) w:=by intro w _;(try simp only[zSA,zSB,zSC]);go_simp;(try with_reducible rfl)):
 bh P md ops Q S X (fuel+1) listed a w:=by
 simp only[zbd] at hb;obtain⟨⟨⟨hs,hf⟩,hr⟩,hx⟩:=hb;exact Eg hi (Region.noSelect_spec hs) (by rw[hd];exact hQ) hx fuel listed a w (Region.free_spec hi hf) (by simpa using hr) (.inl ⟨hw,hy⟩) (by rw[hd];exact h)
end
def Tc:Op->Bool
 | .move _ | .assign _ | .pick .. | .load .. | .nilCheck _ | .binOp .. | .unOp .. | .fieldAddr .. | .field .. | .indexAddr .. | .index .. | .extract .. | .build .. | .slice .. | .convert .. | .sliceToArrayPointer .. | .lookup .. =>true
 | .call c=>match c.callee with | .builtin .len=>true | .builtin .min=>true | .builtin .max=>true | _=>false
 | _=>false
def Xd:Op->Nat->Operand
 | .move x,0 | .assign x,0 | .load _ x,0 | .nilCheck x,0 | .unOp _ _ x,0 | .fieldAddr _ x _,0 | .field _ x _,0 | .extract x _,0=>x
 | .binOp _ _ x _ _,0 | .binOp _ _ _ x _,1 | .indexAddr _ x _,0 | .indexAddr _ _ x,1 | .index _ x _,0 | .index _ _ x,1 | .pick x _ _,0 | .pick _ x _,1 | .pick _ _ x,2=>x
 | _,_=>.const undef
def Va:Op->Bool
 | .move _ | .assign _ | .pick .. | .load .. | .nilCheck _ | .binOp .. | .unOp .. | .fieldAddr .. | .field .. | .indexAddr .. | .index .. | .extract .. =>true
 | _=>false
def E9 (l:List Bool):List Edge->Bool
 | []=>true
 | e::es=>(l.getD e.on true|| !Region.binds .any e)&&E9 l es
def Js (l:List Bool):Nat->List Oper->List Bool->Option Nat
 | i,o::os,b::bs=>if(!b&&Tc o.op&&E9 l o.after.toList)=true then some i else Js l (i+1) os bs
 | _,_,_=>none
def Ze (ops:Array Oper) (l:Array Bool):Option Nat:=Js l.toList 0 ops.toList l.toList
def candN (i:Nat) (ops:Array Oper) (l:Array Bool):Option Nat:=Js l.toList 0 ops.toList (l.toList.set i true)
def KN:Nat->List Oper->List Bool->Option Nat
 | i,o::os,b::bs=>if(!b&&(match o.op with | .call _=>true | _=>false))=true then some i else KN (i+1) os bs
 | _,_,_=>none
def candC (ops:Array Oper) (l:Array Bool):Option Nat:=KN 0 ops.toList l.toList
section
variable {P:Program} {ops:Array Oper} {Q:Exit->Act->World->Prop} {md:Region.Mode} {S:World->Prop} {X:Nat->Bool}
theorem fQ (S:World->Prop) (X:Nat->Bool) {w:World} {l:Array Bool}
 (h:bh P .any ops Q S X ops.size l a w.drew) (hm:P.follows .mixedOrders=true:=by kernel_rfl) (hl:Array.replicate ops.size false=l:=by first | (simp only[zV,zP,zap,Nat.reduceAdd,zac,zab,zan,zaa,zal];exact rfl) | exact rfl):(Code.region id ops true).wp P Q a w:=
 eV S X hm (by subst hl;exact h)
theorem S4 {x y z:Operand} {u v r:Value} {w:World} {R:Result Next} (hu:a.eval x=u) (hv:a.eval y=v) (hr:a.eval z=r)
 (h:∀ρ:Operand->Value,ρ x=u->ρ y=v->ρ z=r->(Va o.op=false->ρ=a.eval)->(execOp ρ o).run P w=R):(execOp a.eval o).run P w=R:=h _ hu hv hr (λ_=>rfl)
theorem bK {t:Tmp} {v:Value} {oi:Oper} {fuel:Nat} {l l':Array Bool} {tm NB:Array Value} {df:List Deferred} {w:World} {x y z:Operand} {xu yu zu:Value} (hS:S w)
 (h:bh P md ops Q S X fuel l' ⟨NB,df⟩ w)
 (_:Ze ops l=some j:=by exact rfl) (_:j=i:=by first | (simp only[Nat.reduceAdd];exact rfl) | exact rfl) (hi:ops[i]? =some oi:=by exact rfl) (hd:oi.dst=some t:=by exact rfl)
 (hw:Region.wanted oi (yielded ops tm)=true:=by rfl)
 (hb:(Region.noSelect ops&&Region.free md ops l i&&(Region.ready md ops l).contains i&&mN md ops l X i)=true:=by kernel_rfl)
 (_:Xd oi.op 0=x:=by conv=>lhs;whnf) (_:Xd oi.op 1=y:=by conv=>lhs;whnf) (_:Xd oi.op 2=z:=by conv=>lhs;whnf)
 (hx:Act.eval ⟨tm,df⟩ x=xu:=by conv=>lhs;whnf) (hy:Act.eval ⟨tm,df⟩ y=yu:=by conv=>lhs;whnf) (hz:Act.eval ⟨tm,df⟩ z=zu:=by conv=>lhs;whnf)
 (hQ:∀c a w,Q (.panic c) (a.put (some t) v) w->Q (.panic c) a w:=by exact λ_ _ _ h=>h)
 (ho:∀w,S w->∀ρ:Operand->Value,ρ x=xu->ρ y=yu->ρ z=zu->(Va oi.op=false->ρ=Act.eval ⟨tm,df⟩)->(execOp ρ oi).run P w=.ok (.value v) w:=by intro w hSw ρ hρ1 hρ2 hρ3 hρ4;(try dsimp only at hSw);first | (cases hρ4 rfl;go_simp;(try with_reducible rfl)) | (go_simp;(try with_reducible rfl)))
 (hl:l.setIfInBounds i true=l':=by first | (simp only[zSA,zSB,zSC];exact rfl) | exact rfl)
 (ht:tm.setIfInBounds t v=NB:=by simp only[zSA,zSB,zSC];exact rfl):
 bh P md ops Q S X (fuel+1) l ⟨tm,df⟩ w:=by
 subst hl ht;exact RT i t hS h hi hd hw hb hQ (λw hSw=>S4 hx hy hz (ho w hSw))
theorem R_v {t:Tmp} {v:Value} {fuel:Nat} {l:Array Bool} {tm NB:Array Value} {df:List Deferred} {w:World} (h:bh P md ops Q S X fuel l ⟨NB,df⟩ w)
 (ht:tm.setIfInBounds t v=NB:=by simp only[zSA,zSB,zSC];exact rfl):bh P md ops Q S X fuel l ⟨tm.setIfInBounds t v,df⟩ w:=by
 subst ht;exact h
theorem R_c {t:Tmp} {f:FuncId} {xs:Array Operand} {ts:Array TypeId} {vs:Array Value} {R:Ending->World->Prop} {oi:Oper} {fuel:Nat} {l l':Array Bool} {tm:Array Value} {df:List Deferred} {w:World}
 (hc:Calls P f vs w R)
 (h:∀e w'',R e w''->∃v,e=.returned v/\(X i=false->S w'')/\bh P md ops Q S X fuel l' ⟨tm.setIfInBounds t v,df⟩ w'')
 (_:candC ops l=some j:=by exact rfl) (_:j=i:=by first | (simp only[Nat.reduceAdd];exact rfl) | exact rfl) (hi:ops[i]? =some oi:=by exact rfl) (hd:oi.dst=some t:=by exact rfl)
 (hw:Region.wanted oi (yielded ops tm)=true:=by rfl)
 (hr:Region.ready md ops l=[i]:=by kernel_rfl)
 (ho:oi.op=.call {callee:=.value (.func f),args:=xs,argTypes:=ts}:=by exact rfl)
 (hx:xs.map (Act.eval ⟨tm,df⟩)=vs:=by simp only[zar,zF,zaw];rfl)
 (hf:∀args w,(callFunc f args).run P w=.ok (.enter f args) w:=by intro args w;go_simp)
 (hl:l.setIfInBounds i true=l':=by first | (simp only[zSA,zSB,zSC];exact rfl) | exact rfl):
 bh P md ops Q S X (fuel+1) l ⟨tm,df⟩ w:=by
 subst hl;refine aI i t hi hd hw hr ?_ hc h;unfold execOp;have hg:Act.eval ⟨tm,df⟩ (.func f)=.func (.func f) #[] #[]:=rfl;simp only[ho,resolve,invoke,Sem.run_bind,hx,hg];simp[Deferred.ofValue,hf,go_sem]
variable {oi:Oper} {fuel:Nat} {l l':Array Bool} {tm NB:Array Value} {df:List Deferred} {w w':World} {v:Value}
theorem fe (i:Nat) (t:Tmp) (hi:ops[i]? =some oi) (hy:(execOp (Act.eval ⟨tm,df⟩) oi).run P w=.ok (.value v) w') (hS:X i=false->S w') (h:bh P md ops Q S X fuel l' ⟨NB,df⟩ w')
 (hd:oi.dst=some t:=by exact rfl) (hw:Region.wanted oi (yielded ops tm)=true:=by rfl) (hr:Region.ready md ops l=[i]:=by kernel_rfl)
 (hl:l.setIfInBounds i true=l':=by first | (simp only[zSA,zSB,zSC];exact rfl) | exact rfl)
 (ht:tm.setIfInBounds t v=NB:=by simp only[zSA,zSB,zSC];exact rfl):bh P md ops Q S X (fuel+1) l ⟨tm,df⟩ w:=by
 subst hl ht;exact R_run i t hi hd hw hr hy hS h
theorem jx (i:Nat) (hi:ops[i]? =some oi) (hy:(execOp (Act.eval ⟨tm,df⟩) oi).run P w=.ok .skip w') (hS:X i=false->S w') (h:bh P md ops Q S X fuel l' ⟨tm,df⟩ w')
 (hd:oi.dst=none:=by exact rfl) (hw:Region.wanted oi (yielded ops tm)=true:=by rfl) (hr:Region.ready md ops l=[i]:=by kernel_rfl)
 (hl:l.setIfInBounds i true=l':=by first | (simp only[zSA,zSB,zSC];exact rfl) | exact rfl):bh P md ops Q S X (fuel+1) l ⟨tm,df⟩ w:=by
 subst hl;exact KT i hi hd hw hr hy (.inl rfl) hS h
theorem kT (i:Nat) (t:Tmp) (hi:ops[i]? =some oi) (hS:S w) (hy:∀w,S w->(execOp (Act.eval ⟨tm,df⟩) oi).run P w=.ok (.value v) w) (h:bh P md ops Q S X fuel l' ⟨NB,df⟩ w)
 (hd:oi.dst=some t:=by exact rfl) (hw:Region.wanted oi (yielded ops tm)=true:=by rfl)
 (hb:(Region.noSelect ops&&Region.free md ops l i&&(Region.ready md ops l).contains i&&mN md ops l X i)=true:=by kernel_rfl)
 (hQ:∀c a w,Q (.panic c) (a.put (some t) v) w->Q (.panic c) a w:=by exact λ_ _ _ h=>h)
 (hl:l.setIfInBounds i true=l':=by first | (simp only[zSA,zSB,zSC];exact rfl) | exact rfl)
 (ht:tm.setIfInBounds t v=NB:=by simp only[zSA,zSB,zSC];exact rfl):bh P md ops Q S X (fuel+1) l ⟨tm,df⟩ w:=by
 subst hl ht;exact RT i t hS h hi hd hw hb hQ hy
theorem vo (i:Nat) (t:Tmp) (hS:S w) (h:bh P md ops Q S X fuel l' ⟨NB,df⟩ w) (hi:ops[i]? =some oi:=by exact rfl)
 (hd:oi.dst=some t:=by exact rfl) (hw:Region.wanted oi (yielded ops tm)=true:=by rfl)
 (hb:(Region.noSelect ops&&Region.free md ops l i&&(Region.ready md ops l).contains i&&mN md ops l X i)=true:=by kernel_rfl)
 (hQ:∀c a w,Q (.panic c) (a.put (some t) v) w->Q (.panic c) a w:=by exact λ_ _ _ h=>h)
 (hy:∀w,S w->(execOp (Act.eval ⟨tm,df⟩) oi).run P w=.ok (.value v) w:=by intro w hSw;(try dsimp only at hSw);(try simp only[zSA,zSB,zSC]);go_simp;(try with_reducible rfl))
 (hl:l.setIfInBounds i true=l':=by first | (simp only[zSA,zSB,zSC];exact rfl) | exact rfl)
 (ht:tm.setIfInBounds t v=NB:=by simp only[zSA,zSB,zSC];exact rfl):bh P md ops Q S X (fuel+1) l ⟨tm,df⟩ w:=by
 subst hl ht;exact RT i t hS h hi hd hw hb hQ hy
end
namespace Sp
abbrev Bs:=List UInt8
def be:Nat->Nat->Bs
 | 0,_=>[]
 | k+1,n=>be k (n/256)++[UInt8.ofNat n]
def num (l:Bs):Nat:=l.foldl (λa b=>a*256+b.toNat) 0
@[simp] theorem aV:∀(k n:Nat),(be k n).length=k
 | 0,_=>rfl
 | k+1,n=>by simp[be,aV k]
theorem Rz:∀(k n j:Nat),j<k->(be k n)[j]? =some (UInt8.ofNat (n/256 ^ (k-1-j)))
 | 0,_,_,h=>absurd h (by omega)
 | k+1,n,j,h=>by
  rw[be];rcases za4 j k with hj | hj
  ·rw[zai (by simpa using hj),Rz k _ j hj,Nat.div_div_eq_div_mul];have:256*256 ^ (k-1-j)=256 ^ (k+1-1-j):=by
    rw[Nat.mul_comm,<-Nat.pow_succ];congr 1;omega
   rw[this]
  ·obtain rfl:j=k:=by omega
   rw[zO (by simp)];simp
theorem xO (l:Bs) (b:UInt8):num (l++[b])=num l*256+b.toNat:=by simp[num]
theorem Pa:∀(k n:Nat),num (be k n)=n%256 ^ k
 | 0,n=>by simp[be,num,Nat.mod_one]
 | k+1,n=>by
  rw[be,xO,Pa k,Nat.pow_succ,UInt8.toNat_ofNat'];rw[Nat.mul_comm (256 ^ k) 256,Nat.mod_mul];omega
theorem cV (h:n<256 ^ k):num (be k n)=n:=by rw[Pa,Nat.mod_eq_of_lt h]
theorem oH:∀(l:Bs),num l<256 ^ l.length:=by
 intro l
 suffices h:∀m (l:Bs),l.length=m->num l<256 ^ m from h _ l rfl
 intro m
 induction m with
 | zero=>intro l h;rw[zy h];simp[num]
 | succ m ih=>
  intro l h;have hne:l≠[]:=by rintro rfl;simp at h
  obtain⟨l',b,rfl⟩:∃l' b,l=l'++[b]:=⟨l.dropLast,l.getLast hne,(List.dropLast_concat_getLast hne).symm⟩;rw[xO,Nat.pow_succ];have h1:=ih l' (by simpa using h);have h2:=b.toNat_lt;omega
def patch (l:Bs) (at_:Nat) (p:Bs):Bs:=l.take at_++p++l.drop (at_+p.length)
theorem di {l:Bs} {p:Bs} (h:k+p.length<=l.length):(patch l k p).length=l.length:=by
 simp[patch];omega
theorem kj {x y z p:Bs} (hk:k=x.length) (hp:p.length=y.length):patch (x++y++z) k p=x++p++z:=by
 subst hk;unfold patch;rw[zh x y z,List.take_left,hp]
 congr 1
 rw[show x++(y++z)=(x++y)++z by simp,show x.length+y.length=(x++y).length by simp,List.drop_left]
def zeros (n:Nat):Bs:=List.replicate n 0
def total (rows:List Bs):Nat:=(rows.map List.length).sum
@[simp] theorem Lq:total []=0:=rfl
@[simp] theorem rq (r:Bs) (rows:List Bs):total (r::rows)=r.length+total rows:=by simp[total]
@[simp] theorem mZ (a b:List Bs):total (a++b)=total a+total b:=by simp[total]
def dir:Nat->List Bs->Bs
 | _,[]=>[]
 | low,r::rs=>be 2 (low-r.length)++be 2 r.length++dir (low-r.length) rs
theorem fV:∀(low:Nat) (rows:List Bs),(dir low rows).length=4*rows.length
 | _,[]=>rfl
 | low,r::rs=>by simp[dir,fV _ rs];omega
theorem nH:∀(low:Nat) (a b:List Bs),dir low (a++b)=dir low a++dir (low-total a) b
 | low,[],b=>by simp[dir]
 | low,r::rs,b=>by
  simp only[zal,dir,nH _ rs b,rq,zh];rw[Nat.sub_sub]
def bO (size:Nat) (rows:List Bs):Bs:=
 be 2 rows.length++be 2 (size-total rows)++dir size rows++zeros (size-total rows-4-4*rows.length)++rows.reverse.flatten
theorem oQ (rows:List Bs):rows.flatten.length=total rows:=by
 induction rows with
 | nil=>rfl
 | cons r rs ih=>simp[ih]
theorem qE (rows:List Bs):total rows.reverse=total rows:=by
 induction rows with
 | nil=>rfl
 | cons r rs ih=>simp[ih];omega
theorem iw {rows:List Bs} (h:4+4*rows.length+total rows<=size):(bO size rows).length=size:=by
 simp only[bO,zo,aV,fV,zeros,zbc,oQ,qE];omega
theorem RF (size:Nat) (h:4<=size):bO size []=patch (zeros size) 2 (be 2 size):=by
 have e:zeros size=zeros 2++zeros 2++zeros (size-4):=by
  unfold zeros;rw[List.replicate_append_replicate,List.replicate_append_replicate];congr 1;omega
 rw[e,kj (by simp[zeros]) (by simp[zeros])];simp[bO,dir,be,zeros]
theorem RD {rows:List Bs} {r:Bs} (h:8+4*rows.length+total rows+r.length<=size):
 patch (patch (patch (patch (patch (bO size rows) (size-total rows-r.length) r) 2 (be 2 (size-total rows-r.length))) 0 (be 2 (rows.length+1))) (4+4*rows.length) (be 2 (size-total rows-r.length)))
  (4+4*rows.length+2) (be 2 r.length)=bO size (rows++[r]):=by
 obtain⟨z,hz⟩:∃z,size-total rows-4-4*rows.length=4+z+r.length:=⟨size-total rows-4-4*rows.length-4-r.length,by omega⟩;have e0:bO size rows=(be 2 rows.length++be 2 (size-total rows)++dir size rows++zeros 4++zeros z)++zeros r.length++rows.reverse.flatten:=by
  unfold bO;rw[hz];have:zeros (4+z+r.length)=zeros 4++zeros z++zeros r.length:=by
   unfold zeros;rw[List.replicate_append_replicate,List.replicate_append_replicate]
  rw[this];simp only[zh]
 rw[e0,kj (by simp[fV,zeros];omega) (by simp[zeros])];rw[show(be 2 rows.length++be 2 (size-total rows)++dir size rows++zeros 4++zeros z)++r++rows.reverse.flatten=be 2 rows.length++be 2 (size-total rows)++(dir size rows++zeros 4++zeros z++r++rows.reverse.flatten) by simp only[zh]];rw[kj (by simp) (by simp)];rw[show be 2 rows.length++be 2 (size-total rows-r.length)++(dir size rows++zeros 4++zeros z++r++rows.reverse.flatten)=[]++be 2 rows.length++(be 2 (size-total rows-r.length)++(dir size rows++zeros 4++zeros z++r++rows.reverse.flatten)) by simp only[zh,zaa]];rw[kj (by simp) (by simp)];have e4:zeros 4=zeros 2++zeros 2:=rfl;rw[show[]++be 2 (rows.length+1)++(be 2 (size-total rows-r.length)++(dir size rows++zeros 4++zeros z++r++rows.reverse.flatten))=(be 2 (rows.length+1)++be 2 (size-total rows-r.length)++dir size rows)++zeros 2++(zeros 2++zeros z++r++rows.reverse.flatten) by rw[e4];simp only[zh,zaa]];rw[kj (by simp[fV];omega) (by simp[zeros])];rw[show(be 2 (rows.length+1)++be 2 (size-total rows-r.length)++dir size rows)++be 2 (size-total rows-r.length)++(zeros 2++zeros z++r++rows.reverse.flatten)=(be 2 (rows.length+1)++be 2 (size-total rows-r.length)++dir size rows++be 2 (size-total rows-r.length))++zeros 2++(zeros z++r++rows.reverse.flatten) by simp only[zh]];rw[kj (by simp[fV];omega) (by simp[zeros])];unfold bO;have hz':size-total (rows++[r])-4-4*(rows++[r]).length=z:=by simp;omega
 rw[hz',nH];simp[dir,Nat.sub_sub]
end Sp
abbrev str (l:Sp.Bs):Value:=.string ⟨l.toArray⟩
def eU (l:Sp.Bs):List Value:=l.map λb=>Value.int .u8 (b.toNat:Int)
@[simp] theorem nJ (l:Sp.Bs):(eU l).length=l.length:=by simp[eU]
theorem KO (l:Sp.Bs) (j:Nat):(eU l)[j]? =(l[j]?).map λb=>Value.int .u8 (b.toNat:Int):=by simp[eU]
theorem pE (l:Sp.Bs) (j:Nat) (h:j<l.length):(eU l)[j]? =some (Value.int .u8 (l[j].toNat:Int)):=by simp[eU,h]
theorem nK (a b:Sp.Bs):eU (a++b)=eU a++eU b:=by simp[eU]
theorem bt (w:World) (src dst e:TypeId) (b o n cap:Nat) (l:Sp.Bs) (hs:P.underlying src=some (.slice e)) (he:P.underlying e=some (.int .u8)) (hd:P.underlying dst=some .string)
 (hn:n=l.length) (hc:∀j (hj:j<l.length),w.cell? ⟨b,o+j,none⟩=some (.int .u8 (l[j].toNat:Int))):
 (convert src dst (.slice (some ⟨b,o,none⟩) n cap)).run P w=.ok (str l) w:=by
 subst hn;refine run_convert_bytes_back w src dst e ⟨b,o,none⟩ cap l hs he hd (λj hj=>?_);have e1:(⟨b,o,none⟩:Addr).add j=⟨b,o+j,none⟩:=by unfold Addr.add;split<;>simp_all
 rw[e1];exact hc j hj
@[simp] theorem w_ (l:Sp.Bs):(⟨l.toArray⟩:ByteArray).size=l.length:=by simp[ByteArray.size]
theorem dw (l:Sp.Bs) (a b:Nat):(⟨l.toArray⟩:ByteArray).extract a b=⟨((l.drop a).take (b-a)).toArray⟩:=by
 apply ByteArray.ext;apply Array.toList_inj.1;simp[ByteArray.data_extract,List.extract_eq_take_drop]
theorem aP (a b:Sp.Bs):(⟨a.toArray⟩:ByteArray)++⟨b.toArray⟩=⟨(a++b).toArray⟩:=by
 apply ByteArray.ext;simp
theorem Jn (w:World) (src dst e:TypeId) (l:Sp.Bs) {u:TypeDesc} (hs:P.underlying src=some u) (hd:P.underlying dst=some (.slice e)) (he:P.underlying e=some (.int .u8)):
 ∃gc w1,(convert src dst (str l)).run P w=.ok (.slice (some ⟨w.heap.size,0,none⟩) l.length gc) w1/\zB w w1/\w1.heap.size=w.heap.size+1/\
  (∀j (hj:j<l.length),w1.cell? ⟨w.heap.size,j,none⟩=some (.int .u8 (l[j].toNat:Int)))/\(∀j,j<l.length->w1.frozen? ⟨w.heap.size,j,none⟩=false):=by
 refine⟨_,_,Lib.run_convert_string_bytes w src dst e ⟨l.toArray⟩ hs hd he |>.trans (by rw[w_]),⟨?_,?_,?_,?_,?_⟩,Lib.bytesWorld_size _ _ _,λj hj=>?_,λj hj=>?_⟩
 ·simp[Lib.bytesWorld,World.freeze,World.alloc,World.drew,-World.alloc_eq,-World.drew_eq]
 ·simp[Lib.bytesWorld,World.freeze,World.alloc,World.drew,-World.alloc_eq,-World.drew_eq]
 ·simp[Lib.bytesWorld,World.freeze,World.alloc,World.drew,-World.alloc_eq,-World.drew_eq]
 ·rw[Lib.bytesWorld_size];omega
 ·exact λk hk=>Lib.bytesWorld_at_old _ _ _ _ hk
 ·rw[Lib.bytesWorld_cell _ _ _ _ (by simpa using hj)];simp[List.getD,hj]
 ·have hsz:l.length<=(Lib.bytesCells w e ⟨l.toArray⟩).size:=by simp[Lib.bytesCells]
  simp[World.frozen?,Lib.bytesWorld_at_new];omega
def dU (w:World) (e:TypeId) (l:Sp.Bs):World:=Lib.bytesWorld w e ⟨l.toArray⟩
def yR (w:World) (e:TypeId) (l:Sp.Bs):Nat:=grownCap w l.length 0 e
theorem yN (src dst e:TypeId) (l:Sp.Bs) {u:TypeDesc} (hs:P.underlying src=some u) (hd:P.underlying dst=some (.slice e)) (he:P.underlying e=some (.int .u8)):
 ∀w,(convert src dst (str l)).run P w=.ok (.slice (some ⟨w.heap.size,0,none⟩) l.length (yR w e l)) (dU w e l):=λw=>
 (Lib.run_convert_string_bytes w src dst e ⟨l.toArray⟩ hs hd he).trans (by rw[w_];rfl)
theorem Nc (w:World) (e:TypeId) (l:Sp.Bs) (h:l.length<=maxLen):l.length<=yR w e l/\yR w e l<=maxLen:=⟨grownCap_ge _ _ _ _,grownCap_le_maxLen _ _ _ _ h⟩
theorem j6 (w:World) (e:TypeId) (l:Sp.Bs):zB w (dU w e l)/\(dU w e l).heap.size=w.heap.size+1/\
 (∀j (hj:j<l.length),(dU w e l).cell? ⟨w.heap.size,j,none⟩=some (.int .u8 (l[j].toNat:Int)))/\(∀j,j<l.length->(dU w e l).frozen? ⟨w.heap.size,j,none⟩=false):=by
 refine⟨⟨?_,?_,?_,?_,?_⟩,Lib.bytesWorld_size _ _ _,λj hj=>?_,λj hj=>?_⟩
 ·simp[dU,Lib.bytesWorld,World.freeze,World.alloc,World.drew,-World.alloc_eq,-World.drew_eq]
 ·simp[dU,Lib.bytesWorld,World.freeze,World.alloc,World.drew,-World.alloc_eq,-World.drew_eq]
 ·simp[dU,Lib.bytesWorld,World.freeze,World.alloc,World.drew,-World.alloc_eq,-World.drew_eq]
 ·rw[dU,Lib.bytesWorld_size];omega
 ·exact λk hk=>Lib.bytesWorld_at_old _ _ _ _ hk
 ·rw[dU,Lib.bytesWorld_cell _ _ _ _ (by simpa using hj)];simp[List.getD,hj]
 ·have hsz:l.length<=(Lib.bytesCells w e ⟨l.toArray⟩).size:=by simp[Lib.bytesCells]
  simp[dU,World.frozen?,Lib.bytesWorld_at_new];omega
theorem BF (a:Nat) (ha:a<9223372036854775808):(BitVec.ofInt 64 (a:Int)).toNat=a:=by
 rw[BitVec.ofInt_natCast,BitVec.toNat_ofNat];exact Nat.mod_eq_of_lt (by omega)
theorem Io (a b:Nat) (ha:a<9223372036854775808) (hb:b<9223372036854775808):bits .or .i64 (a:Int) (b:Int)=((a||| b:Nat):Int):=by
 have hx:a||| b<2 ^ 63:=Nat.or_lt_two_pow (by omega) (by omega)
 show IntKind.i64.wrap ((BitVec.ofInt 64 (a:Int)||| BitVec.ofInt 64 (b:Int)).toNat:Int)=_;rw[BitVec.toNat_or,BF a ha,BF b hb,IntKind.wrap_i64];omega
theorem Hl {f:FuncId} {w:World}
 (h:Calls P f args (w.drewN n) λe w'=>e=.returned v/\w.drewN n=w'):Calls P f args (w.drewN n) λe w''=>e=.returned v/\∃m,w''=w.drewN m:=
 h.mono λ_ _ ⟨he,hm⟩=>⟨he,n,hm.symm⟩
theorem jk (t e:TypeId) (i:TypeInfo) (z:Value) (ht:P.underlying t=some (.slice e)) (hi:P.info? e=some i) (hz:i.zero=some z)
 (kl kc:IntKind) (n c:Nat) (hnc:n<=c) (hbytes:i.bytes*c<=281474976710656) (h63:c<=9223372036854775807) (w:World):
 (Instr.makeSlice t (.int kl (n:Int)) (.int kc (c:Int))).run P w=.ok (.slice (some ⟨w.heap.size,0,none⟩) n c) (w.alloc (.cells (madeCells z.cells (c*i.size)) e)):=by
 have hb:(i.bytes:Int)*(c:Int)<=281474976710656:=by
  have h:((i.bytes*c:Nat):Int)<=281474976710656:=by omega
  rwa [Int.natCast_mul] at h
 have hr:=run_make (P:=P) w t e i z ht hi hz kl kc n c (by omega) (by omega) hb (by omega);simp only[Int.toNat_natCast] at hr;exact hr
theorem qK (v:Value) (n:Nat):madeCells #[v] n=(List.replicate n v).toArray:=by
 unfold madeCells;apply Array.ext_getElem?;intro j;rcases za4 j n with hj | hj
 ·simp[hj,Nat.mod_one]
 ·rw[zah (by simpa using hj)];simp;omega
namespace Sp
def two (l:Bs) (k:Nat):Nat:=num ((l.drop k).take 2)
theorem gu {x y z:Bs} (hk:k=x.length) (hn:n=y.length):((x++y++z).drop k).take n=y:=by
 subst hk hn;rw[zh,List.drop_left,List.take_left]
theorem wm {x z:Bs} (hk:k=x.length) (hn:n<65536):two (x++be 2 n++z) k=n:=by
 unfold two;rw[gu hk (by simp),cV (by omega)]
theorem rR {rows:List Bs} (h:rows.length<65536):two (bO size rows) 0=rows.length:=by
 unfold bO;rw[show be 2 rows.length++be 2 (size-total rows)++dir size rows++zeros (size-total rows-4-4*rows.length)++rows.reverse.flatten=
  []++be 2 rows.length++(be 2 (size-total rows)++dir size rows++zeros (size-total rows-4-4*rows.length)++rows.reverse.flatten) by simp only[zh,zaa]]
 exact wm (by simp) h
theorem F6 {rows:List Bs} (h:size<65536):two (bO size rows) 2=size-total rows:=by
 unfold bO;rw[show be 2 rows.length++be 2 (size-total rows)++dir size rows++zeros (size-total rows-4-4*rows.length)++rows.reverse.flatten=
  be 2 rows.length++be 2 (size-total rows)++(dir size rows++zeros (size-total rows-4-4*rows.length)++rows.reverse.flatten) by simp only[zh]]
 exact wm (by simp) (by omega)
theorem xb (rows:List Bs) (i:Nat) (h:i<rows.length):rows=rows.take i++rows[i]::rows.drop (i+1):=by
 rw[<-zao h,zS]
theorem bL (rows:List Bs) (i:Nat) (h:i<rows.length):total (rows.take (i+1))=total (rows.take i)+rows[i].length:=by
 rw[zg h,mZ,rq,Lq,Nat.add_zero]
theorem b_ (rows:List Bs) (i:Nat):total (rows.take i)<=total rows:=by
 conv=>rhs;rw[<-zS i rows,mZ]
 omega
theorem vu (rows:List Bs) (h:i<=j):total (rows.take i)<=total (rows.take j):=by
 have:=b_ (rows.take j) i
 rwa [List.take_take,Nat.min_eq_left h] at this
theorem qa {rows:List Bs} (hi:i<rows.length) (h:size<65536):two (bO size rows) (4+4*i)=size-total (rows.take (i+1)):=by
 unfold bO;rw[bL rows i hi];generalize hz:zeros (size-total rows-4-4*rows.length)=z;generalize hf:rows.reverse.flatten=f;generalize hl:be 2 (size-total rows)=l;have AL:l.length=2:=by rw[<-hl];simp
 generalize hc:be 2 rows.length=c;have Fv:c.length=2:=by rw[<-hc];simp
 have hs:=xb rows i hi;generalize hr:rows[i]=r at hs ⊢;have hd:dir size rows=dir size (rows.take i)++(be 2 (size-total (rows.take i)-r.length)++be 2 r.length++dir (size-total (rows.take i)-r.length) (rows.drop (i+1))):=by
  conv=>lhs;rw[hs]
  rw[nH,dir]
 rw[hd,show c++l++(dir size (rows.take i)++(be 2 (size-total (rows.take i)-r.length)++be 2 r.length++dir (size-total (rows.take i)-r.length) (rows.drop (i+1))))++z++f=
  (c++l++dir size (rows.take i))++be 2 (size-total (rows.take i)-r.length)++(be 2 r.length++dir (size-total (rows.take i)-r.length) (rows.drop (i+1))++z++f) by simp only[zh]]
 rw[wm (by simp[Fv,AL,fV];omega) (by omega),Nat.sub_sub]
theorem pF {rows:List Bs} (hi:i<rows.length) (h:rows[i].length<65536):two (bO size rows) (4+4*i+2)=rows[i].length:=by
 unfold bO;generalize hz:zeros (size-total rows-4-4*rows.length)=z;generalize hf:rows.reverse.flatten=f;generalize hl:be 2 (size-total rows)=l;have AL:l.length=2:=by rw[<-hl];simp
 generalize hc:be 2 rows.length=c;have Fv:c.length=2:=by rw[<-hc];simp
 have hs:=xb rows i hi;generalize hr:rows[i]=r at hs h ⊢;have hd:dir size rows=dir size (rows.take i)++(be 2 (size-total (rows.take i)-r.length)++be 2 r.length++dir (size-total (rows.take i)-r.length) (rows.drop (i+1))):=by
  conv=>lhs;rw[hs]
  rw[nH,dir]
 rw[hd,show c++l++(dir size (rows.take i)++(be 2 (size-total (rows.take i)-r.length)++be 2 r.length++dir (size-total (rows.take i)-r.length) (rows.drop (i+1))))++z++f=
  (c++l++dir size (rows.take i)++be 2 (size-total (rows.take i)-r.length))++be 2 r.length++(dir (size-total (rows.take i)-r.length) (rows.drop (i+1))++z++f) by simp only[zh]]
 rw[wm (by simp[Fv,AL,fV];omega) (by omega)]
theorem Ng {rows:List Bs} (hi:i<rows.length) (h:4+4*rows.length+total rows<=size):((bO size rows).drop (size-total (rows.take (i+1)))).take rows[i].length=rows[i]:=by
 have hlen:=iw h;have hs:=xb rows i hi;have ht:=bL rows i hi;have hle:=b_ rows (i+1);generalize hr:rows[i]=r at hs ht ⊢;have e:bO size rows=(be 2 rows.length++be 2 (size-total rows)++dir size rows++zeros (size-total rows-4-4*rows.length)++(rows.drop (i+1)).reverse.flatten)++r++(rows.take i).reverse.flatten:=by
  unfold bO
  conv=>lhs;arg 2;rw[hs]
  simp
 have htot:total rows=total (rows.take (i+1))+total (rows.drop (i+1)):=by
  conv=>lhs;rw[<-zS (i+1) rows,mZ]
 rw[e];refine gu ?_ rfl;simp only[zo,aV,fV,zeros,zbc,oQ,qE];omega
theorem Hx {l p:Bs} (h:n<=k) (hk:k<=l.length):(patch l k p).take n=l.take n:=by
 unfold patch;rw[zh,List.take_append_of_le_length (by simp;omega),List.take_take,Nat.min_eq_left h]
theorem wV {l p:Bs} (h:2<=k) (hk:k<=l.length):two (patch l k p) 0=two l 0:=by
 unfold two;rw[List.drop_zero,List.drop_zero,Hx h hk]
structure Pg where
 kind:Nat
 level:Nat
 id:Nat
 aL:Nat
 next:Nat
 rows:List Bs
 deriving Inhabited
def Pg.may (p:Pg):Prop:=p.kind<=5/\1<=p.id/\p.id<=1024/\p.next<=1024/\4*p.rows.length+total p.rows<=484
def Pg.wf (p:Pg):Prop:=p.kind<256/\p.level<256/\p.id<4294967296/\p.aL<18446744073709551616/\p.next<4294967296
def Pg.head (p:Pg):Bs:=be 1 p.kind++be 1 p.level++be 4 p.id++be 8 p.aL++be 4 p.next++be 2 0
theorem Pg.lM (p:Pg):p.head.length=20:=by simp[head]
def Pg.body (p:Pg):Bs:=p.head++bO 488 p.rows
theorem Pg.iv {p:Pg} (h:p.may):p.body.length=508:=by
 obtain⟨_,_,_,_,h⟩:=h;simp[body,lM,iw (size:=488) (rows:=p.rows) (by omega)]
end Sp
def U1 (w:World) (h o:Nat) (l:Sp.Bs):Prop:=∀j (hj:j<l.length),w.cell? ⟨h,o+j,none⟩=some (.int .u8 (l[j].toNat:Int))
structure iy (w:World) (g h:Nat) (l:Sp.Bs):Prop where
 bO:∃c,aj w g 317 #[.slice (some ⟨h,0,none⟩) l.length c]/\l.length<=c/\c<=maxLen
 bytes:U1 w h 0 l
 some_:16<=l.length
 few:l.length<=4096
 dA:h<w.heap.size
theorem iy.drewN {w:World} {l:Sp.Bs} (hA:iy w g h l) (n:Nat):iy (w.drewN n) g h l:=⟨hA.bO,hA.bytes,hA.some_,hA.few,hA.dA⟩
theorem below_drewN' {a w:World} (h:Below B a w) (n:Nat):Below B a (w.drewN n):=⟨h.os,h.tape,h.output,h.size,h.block⟩
theorem mY (l:Sp.Bs) (k:Nat):Sp.two l k<65536:=by
 unfold Sp.two;refine zf (Sp.oH _) ?_;have h:((l.drop k).take 2).length<=2:=by simp;omega
 exact zl (Nat.pow_le_pow_right (by omega) h) (by decide)
theorem kf {w:World} {l:Sp.Bs} (hA:iy w g h l):
 Calls prog 228 #[.pointer (some ⟨g,0,none⟩)] w λe w'=>e=.returned (.bool false)/\w=w':=by
 obtain⟨⟨c,h1,_,_⟩,_,h3,_,_⟩:=hA;have hc:=h1.cell 0;generalize l.length=n at*;have hl:((n:Int)==0)=false:=by rw[zv];omega
 go_enter func228,ntmps228;go_wp2_with fail;go_ret;exact⟨rfl,rfl⟩
theorem S0 (l:Sp.Bs) (k:Nat) (h:k+1<l.length):Sp.two l k=(l[k]'(by omega)).toNat*256+l[k+1].toNat:=by
 unfold Sp.two;rw[zao (by omega),zao h];simp only[List.take_succ_cons,List.take_zero,Sp.num,zbh,List.foldl_nil,Nat.zero_mul,zaj]
theorem mz {w:World} {l:Sp.Bs} (hA:iy w g h l) (k:Nat) (hk:k+1<l.length):
 Calls prog 243 #[.pointer (some ⟨g,0,none⟩),.int .i64 k] w λe w'=>e=.returned (.int .i64 (Sp.two l k))/\∃n,w'=w.drewN n:=by
 obtain⟨⟨c,h1,hlc,hcm⟩,hb,h3,h4,_⟩:=hA;unfold maxLen at hcm;have hc:=h1.cell 0;have e0:=hb k (by omega);have e1:=hb (k+1) hk;rw[zaj] at e0 e1;have H2:=zH (S0 l k hk);have b0:=(l[k]'(by omega)).toNat_lt;have b1:=l[k+1].toNat_lt;generalize(l[k]'(by omega)).toNat=x at*;generalize l[k+1].toNat=y at*;have i0:(0:Int)<=(k:Int):=by omega
 have i1:(k:Int)<(l.length:Int):=by omega
 have i2:(k:Int)+1<(l.length:Int):=by omega
 have i3:(0:Int)<=(k:Int)+1:=by omega
 have i4:IntKind.i64.wrap ((k:Int)+1)=(k:Int)+1:=IntWalk.i64_in _ (by omega);have i5:((k:Int)+1).toNat=k+1:=by omega
 clear hb;go_enter func243,ntmps243;go_wp2_with fail;go_quiet (fail);go_wp2_with fail;go_ret;refine⟨?_,_,rfl⟩;show Ending.returned (.int .i64 (bits .or .i64 ((x:Int)*256) (y:Int)))=_;rw[show(x:Int)*256=((x*256:Nat):Int) by omega,Io _ _ (by omega) (by omega),nat_join 8 _ _ (by omega) (by omega),H2.out]
theorem kA {w:World} {l:Sp.Bs} (hA:iy w g h l):
 Calls prog 199 #[.pointer (some ⟨g,0,none⟩)] w λe w'=>e=.returned (.int .i64 (Sp.two l 0))/\∃n,w'=w.drewN n:=by
 go_enter func199,ntmps199;go_wp2_with fail;refine(kf hA).mono ?_;rintro e w' ⟨rfl,rfl⟩;go_wp2_with fail;refine(mz hA 0 (by have:=hA.some_;omega)).mono ?_;rintro e w' ⟨rfl,n,rfl⟩;go_wp2_with fail;go_ret;exact⟨rfl,n,rfl⟩
theorem Ew {w:World} {l:Sp.Bs} (hA:iy w g h l):
 Calls prog 230 #[.pointer (some ⟨g,0,none⟩)] w λe w'=>e=.returned (.int .i64 ((Sp.two l 2:Int)-4-4*Sp.two l 0))/\∃n,w'=w.drewN n:=by
 have b2:=mY l 2;have b0:=mY l 0;go_enter func230,ntmps230;go_wp2_with fail;refine(kf hA).mono ?_;rintro e w' ⟨rfl,rfl⟩;go_wp2_with fail;refine(mz hA 2 (by have:=hA.some_;omega)).mono ?_;rintro e w' ⟨rfl,n,rfl⟩;go_wp2_with fail;refine(kA (hA.drewN n)).mono ?_;rintro e w' ⟨rfl,m,rfl⟩;go_wp2_with fail;go_ret;exact⟨rfl,n+m,rfl⟩
theorem ry {w:World} {l:Sp.Bs} (hA:iy w g h l) (i:Nat) (hi:4+4*i+3<l.length):
 Calls prog 277 #[.pointer (some ⟨g,0,none⟩),.int .i64 i] w λe w'=>e=.returned (.tuple #[.int .i64 (Sp.two l (4+4*i)),.int .i64 (Sp.two l (4+4*i+2))])/\∃n,w'=w.drewN n:=by
 have i1:(i:Int)<=4096:=by have:=hA.few;omega
 go_enter func277,ntmps277;go_wp2_with fail;rw[show(4+4*(i:Int))=((4+4*i:Nat):Int) by omega];refine(mz hA (4+4*i) (by omega)).mono ?_;rintro e w' ⟨rfl,n,rfl⟩;go_wp2_with fail;rw[show(4+4*(i:Int)+2)=((4+4*i+2:Nat):Int) by omega];refine(mz (hA.drewN n) (4+4*i+2) (by omega)).mono ?_;rintro e w' ⟨rfl,m,rfl⟩;go_wp2_with fail
 go_ret2
 exact⟨rfl,n+m,rfl⟩
theorem LG {w:World} {l:Sp.Bs} (hA:iy w g h l) (i f n:Nat) (hi:4+4*i+3<l.length) (hf:Sp.two l (4+4*i)=f) (hn:Sp.two l (4+4*i+2)=n) (hfn:f+n<=l.length):
 Calls prog 245 #[.pointer (some ⟨g,0,none⟩),.int .i64 i] w λe w'=>e=.returned (str ((l.drop f).take n))/\∃n,w'=w.drewN n:=by
 go_enter func245,ntmps245;go_wp2_with fail;refine(ry hA i hi).mono ?_;rintro e w' ⟨rfl,q,rfl⟩;rw[hf,hn];clear hf hn;obtain⟨⟨c,h1,hlc,hcm⟩,hb,h3,h4,_⟩:=hA;unfold maxLen at hcm;have hc:=h1.cell 0;have i1:(f:Int)<=(f:Int)+(n:Int):=by omega
 have i2:(f:Int)+(n:Int)<=(c:Int):=by omega
 rcases za4 f c with hfc | hfc
 ·have hcb:=bt (P:=prog) (w.drewN q) 129 9 5 h f n (c-f) ((l.drop f).take n) underlying129 underlying5 underlying9 (by simp;omega) (λj hj=>by
   have h5:=hb (f+j) (by simp at hj;omega);rw[zaj] at h5;simpa using h5)
  have hne:¬c=f:=by omega
  clear hb;go_wp2_with fail;go_ret;exact⟨rfl,q,rfl⟩
 ·obtain rfl:c=f:=by omega
  obtain rfl:n=0:=by omega
  have hcb:=bt (P:=prog) (w.drewN q) 129 9 5 h 0 0 0 [] underlying129 underlying5 underlying9 rfl (λj hj=>absurd hj (by simp));clear hb;go_wp2_with fail;go_ret;exact⟨rfl,q,rfl⟩
structure JO (l:Sp.Bs):Prop where
 gap:4+4*Sp.two l 0<=Sp.two l 2
 low:Sp.two l 2<=l.length
 each:∀i,i<Sp.two l 0->Sp.two l 2<=Sp.two l (4+4*i)/\Sp.two l (4+4*i)+Sp.two l (4+4*i+2)<=l.length
 apart:∀i j,i<Sp.two l 0->j<i->Sp.two l (4+4*i+2)=0\/Sp.two l (4+4*j+2)=0\/Sp.two l (4+4*i)+Sp.two l (4+4*i+2)<=Sp.two l (4+4*j)\/Sp.two l (4+4*j)+Sp.two l (4+4*j+2)<=Sp.two l (4+4*i)
theorem Ou {w:World} {l:Sp.Bs} (hA:iy w g h l) (hO:JO l):
 Calls prog 242 #[.pointer (some ⟨g,0,none⟩)] w λe w'=>e=.returned (.bool true)/\∃n,w'=w.drewN n:=by
 obtain⟨o1,o2,o3,o4⟩:=hO;obtain⟨⟨c,h1,_,_⟩,_,h3,h4,_⟩:=id hA;have hc:=h1.cell 0;have MD:=zH λn=>Ew (hA.drewN n);have AK:=zH λn=>mz (hA.drewN n) 2 (by omega);have hlen:=zH λn=>kA (hA.drewN n);have hent:=zH λn i hi=>ry (hA.drewN n) i hi;have b0:=mY l 0;have b2:=mY l 2;have O3:=zH o3;have O4:=zH o4;clear o3 o4 hA h1;have hk:∀i,i<Sp.two l 0->4+4*i+3<l.length:=λi hi=>by omega
 have HK:=zH hk;clear hk;have d1:decide ((l.length:Int)<16)=false:=by rw[ze];omega
 have d2:decide ((4096:Int)<(l.length:Int))=false:=by rw[ze];omega
 have d3:decide ((Sp.two l 2:Int)-4-4*(Sp.two l 0:Int)<0)=false:=by rw[ze];omega
 have d4:decide ((l.length:Int)<(Sp.two l 2:Int))=false:=by rw[ze];omega
 generalize hm:Sp.two l 0=m at*;generalize hlo:Sp.two l 2=low at*;have HM:=zH hm;have HLO:=zH hlo;clear hm hlo;go_enter func242,ntmps242;go_wp2_with fail;go_step3;go_wp2_with fail;go_quiet (first
  | (go_at_call 230;exact Calls.quiet_of (MD.out _))
  | (go_at_call 243;exact Calls.quiet_of (AK.out _)))
 go_wp2_with fail;go_step3;go_wp2_with fail;refine(hlen.out _).mono ?_;rintro e w' ⟨rfl,q0,rfl⟩;go_wp2_with fail;go_loopw [3,41] (λf i wr=>∃k:Nat,k<=m/\i=.int .i64 k/\f=.bool true/\∃q,wr=w.drewN q) (λ_ i _=>m-(intOf i).toNat)
 case atStart=>exact⟨0,by omega,rfl,rfl,_,rfl⟩
 case round=>
  obtain⟨k,hk,rfl,rfl,q,rfl⟩:=hrel;by_cases hlt:k<m
  ·obtain⟨f1,f2⟩:=O3.out k hlt;have f3:=O4.out k;have hek:=hent.out q k (HK.out k hlt);have F3:=zH f3;clear f3;generalize hF:Sp.two l (4+4*k)=F at*;generalize hN:Sp.two l (4+4*k+2)=N at*;clear hF hN;have HE:=zH hek;clear hek;have e1:decide ((low:Int)<=(F:Int))=true:=by rw[zx];omega
   have e2:decide ((F:Int)+(N:Int)<=(l.length:Int))=true:=by rw[zx];omega
   go_wp2_with fail;refine HE.out.mono ?_;rintro e w' ⟨rfl,q1,rfl⟩;go_wp2_with fail;refine(AK.out _).mono ?_;rintro e w' ⟨rfl,q2,rfl⟩;go_wp2_with fail;clear e1 e2 HE;go_loopw [3,68] (λf i wr=>∃j:Nat,j<=k/\i=.int .i64 j/\f=.bool true/\∃q,wr=w.drewN q) (λ_ i _=>k-(intOf i).toNat)
   case atStart=>exact⟨0,by omega,rfl,rfl,_,rfl⟩
   case round=>
    obtain⟨j,hj,rfl,rfl,q3,rfl⟩:=hrel;by_cases hlt2:j<k
    ·have f4:=F3.out j hlt hlt2;have hej:=hent.out q3 j (HK.out j (by omega));generalize hF':Sp.two l (4+4*j)=F' at*;generalize hN':Sp.two l (4+4*j+2)=N' at*;have bF:F'<65536:=by rw[<-hF'];exact mY _ _
     have bN:N'<65536:=by rw[<-hN'];exact mY _ _
     clear hF' hN';have HE:=zH hej;clear hej;have key:(((N:Int)==0)=true/\True)\/(((N:Int)==0)=false/\((N':Int)==0)=true)\/(((N:Int)==0)=false/\((N':Int)==0)=false/\decide ((F:Int)+(N:Int)<=(F':Int))=true)\/
      (((N:Int)==0)=false/\((N':Int)==0)=false/\decide ((F:Int)+(N:Int)<=(F':Int))=false/\decide ((F':Int)+(N':Int)<=(F:Int))=true):=by
      by_cases n1:N=0
      ·exact .inl ⟨by rw[beq_iff_eq];omega,trivial⟩
      ·have m1:((N:Int)==0)=false:=by rw[zv];omega
       by_cases n2:N'=0
       ·exact .inr (.inl ⟨m1,by rw[beq_iff_eq];omega⟩)
       ·have m2:((N':Int)==0)=false:=by rw[zv];omega
        by_cases n3:F+N<=F'
        ·exact .inr (.inr (.inl ⟨m1,m2,by rw[zx];omega⟩))
        ·have n4:F'+N'<=F:=by rcases f4 with h | h | h | h<;>omega
         exact .inr (.inr (.inr ⟨m1,m2,by rw[ze];omega,by rw[zx];omega⟩))
     have bF':=zH f4;clear f4;have lF:(F:Int)<=4096:=by omega
     have lN:(N:Int)<=4096:=by omega
     have lF':(F':Int)<65536:=by omega
     have lN':(N':Int)<65536:=by omega
     rcases key with⟨k1,_⟩ | ⟨k1,k2⟩ | ⟨k1,k2,k3⟩ | ⟨k1,k2,k3,k4⟩
     all_goals
      go_wp2_with fail;refine HE.out.mono ?_;rintro e w' ⟨rfl,q4,rfl⟩;go_wp2_with fail;go_roundw
      case rel=>exact⟨j+1,by omega,by go_num,rfl,_,rfl⟩
      case measure=>simp[intOf];omega
    ·go_wp2_with fail;go_roundw
     case rel=>exact⟨k+1,by omega,by go_num,rfl,_,rfl⟩
     case measure=>simp[intOf];omega
  ·go_wp2_with fail;rw[Exit.noGoto_ret];go_ret;exact⟨rfl,_,rfl⟩
theorem G8 {w:World} {l:Sp.Bs} (hA:iy w g h l) (i:Nat) (hi:i<Sp.two l 0):
 Calls prog 244 #[.pointer (some ⟨g,0,none⟩),.int .i64 i] w λe w'=>e=.returned (.int .i64 0)/\∃n,w'=w.drewN n:=by
 have d1:decide ((Sp.two l 0:Int)<=(i:Int))=false:=by rw[ze];omega
 go_enter func244,ntmps244;go_wp2_with fail;refine(kf hA).mono ?_;rintro e w' ⟨rfl,rfl⟩;go_wp2_with fail;refine(kA hA).mono ?_;rintro e w' ⟨rfl,n,rfl⟩;go_wp2_with fail;go_ret;exact⟨rfl,n,rfl⟩
theorem Ov {w:World} {l:Sp.Bs} (hA:iy w g h l) (i f n:Nat) (hi:i<Sp.two l 0) (hi':4+4*i+3<l.length) (hf:Sp.two l (4+4*i)=f) (hn:Sp.two l (4+4*i+2)=n) (hfn:f+n<=l.length):
 Calls prog 200 #[.pointer (some ⟨g,0,none⟩),.int .i64 i] w λe w'=>e=.returned (.tuple #[str ((l.drop f).take n),.int .i64 0])/\∃n,w'=w.drewN n:=by
 go_enter func200,ntmps200;go_wp2_with fail;refine(G8 hA i hi).mono ?_;rintro e w' ⟨rfl,q,rfl⟩;go_wp2_with fail;refine(LG (hA.drewN q) i f n hi' hf hn hfn).mono ?_;rintro e w' ⟨rfl,q2,rfl⟩;go_wp2_with fail
 go_ret2
 exact⟨rfl,q+q2,rfl⟩
theorem LH (l:Sp.Bs) (w:World) (h1:16<=l.length) (h2:l.length<=4096) (hO:JO l):
 Calls prog 198 #[str l] w λe w'=>∃g h,e=.returned (.tuple #[.pointer (some ⟨g,0,none⟩),.int .i64 0])/\iy w' g h l/\w.heap.size<=g/\w.heap.size<=h/\zB w w':=by
 have hcv:=yN (P:=prog) 9 129 5 l underlying9 underlying129 underlying5;have d1:decide ((l.length:Int)<16)=false:=by rw[ze];omega
 go_enter func198,ntmps198;go_wp2_with fail;obtain⟨hb1,hs1,hnew,_⟩:=j6 w 5 l;obtain⟨c1,c2⟩:=Nc w 5 l (by unfold maxLen;omega);clear hcv;generalize dU w 5 l=w1 at*;generalize yR w 5 l=c at*;have hb2:zB w1 (w1.alloc (.cells #[.slice (some ⟨w.heap.size,0,none⟩) l.length c] 317)):=(zR _).alloc (za _) _;have hA:iy (w1.alloc (.cells #[.slice (some ⟨w.heap.size,0,none⟩) l.length c] 317)) w1.heap.size w.heap.size l:=
  ⟨⟨c,aj.new w1 _ _,c1,c2⟩,λj hj=>by
   rw[zaj,(ej hb2).1 _ _ (by omega)];exact hnew j hj,h1,h2,by simp;omega⟩
 clear hs1;refine(Ou hA hO).mono ?_;rintro e w' ⟨rfl,q,rfl⟩;go_wp2_with fail
 go_ret2
 exact⟨_,_,rfl,hA.drewN q,hb1.size,za _,below_drewN' (hb1.trans (hb2.mono hb1.size)) q⟩
def putCells (n k:Nat):Array Value:=((List.range 8).map λj=>Value.int .u8 (if 8<=j+k then((n/256 ^ (7-j)%256:Nat):Int) else 0)).toArray
theorem Al (n k:Nat) (hk:k<8) (v:Int) (hv:v=((n/256 ^ k%256:Nat):Int)):(putCells n k).setIfInBounds (7-k) (.int .u8 v)=putCells n (k+1):=by
 subst hv;unfold putCells
 match k,hk with
 | 0,_=>simp[zbb]
 | 1,_=>simp[zbb]
 | 2,_=>simp[zbb]
 | 3,_=>simp[zbb]
 | 4,_=>simp[zbb]
 | 5,_=>simp[zbb]
 | 6,_=>simp[zbb]
 | 7,_=>simp[zbb]
theorem EM (n size j:Nat) (hj:j<size) (h8:size<=8) (hj':j<(Sp.be size n).length):(putCells n 8)[8-size+j]? =some (Value.int .u8 ((Sp.be size n)[j].toNat:Int)):=by
 have h1:=Sp.Rz size n j hj;rw[zk hj',Option.some.injEq] at h1;rw[h1];have e:7-(8-size+j)=size-1-j:=by omega
 have hlt:8-size+j<8:=by omega
 simp only[putCells,zGA,zN,zbm hlt,zas];rw[zK (by omega),e,UInt8.toNat_ofNat']
theorem Nd (n k:Nat):((n:Int)/2 ^ (8*k)%256)=((n/256 ^ k%256:Nat):Int):=by
 rw[show 256 ^ k=2 ^ (8*k) by rw[Nat.pow_mul]];simp
theorem d_ (n size:Nat) (w:World) (h1:1<=size) (h8:size<=8) (hn:n<256 ^ size) (lZ:n<18446744073709551616):
 Calls prog 131 #[.int .u64 n,.int .i64 size] w λe w'=>e=.returned (.tuple #[str (Sp.be size n),.bool true])/\zB w w':=by
 have d1:decide ((size:Int)<1)=false:=by simp;omega
 have d2:decide ((8:Int)<(size:Int))=false:=by simp;omega
 have d3:(((n:Int)/2 ^ (8*size)) != 0)=false:=by
  have e:(2:Int) ^ (8*size)=((256 ^ size:Nat):Int):=by rw[show 256 ^ size=2 ^ (8*size) by rw[Nat.pow_mul]];simp
  rw[e,<-Int.natCast_ediv,Nat.div_eq_of_lt hn];rfl
 have i3:(size:Int)<=8:=by omega
 have i0:(0:Int)<=8-(size:Int):=by omega
 have i1:(8:Int)-(size:Int)<=8:=by omega
 have i2:(8-(size:Int)).toNat=8-size:=by omega
 have hN:=zH hn;have hN64:=zH lZ;clear hn lZ;rcases za4 size 8 with hlt | hge
 all_goals
  go_enter func131,ntmps131;go_wp2;go_loopw [7,25] (λ_ i wr=>∃k:Nat,k<=8/\i=.int .i64 k/\aj wr w.heap.size 293 (putCells n k)/\zB w wr) (λ_ i _=>8-(intOf i).toNat)
  case atStart=>exact⟨0,by omega,rfl,aj.new w _ _,(zR _).alloc (za _) _⟩
  case round=>
   obtain⟨k,hk,rfl,hblk,hb⟩:=hrel;by_cases hlt:k<8
   ·obtain⟨v0,hv0⟩:∃v,(putCells n k)[7-k]? =some v:=⟨_,Array.getElem?_eq_getElem (by simp[putCells];omega)⟩;have hcell:=(hblk.cell (7-k)).trans hv0;have hfz:=hblk.frozen (7-k);clear hv0;go_wp2;go_roundw
    case rel=>
     refine⟨k+1,by omega,by go_num,?_,hb.setCell (za _) _⟩;rw[<-Al n k hlt _ (Nd n k)];exact hblk.a_ _ _
    case measure=>simp[intOf];omega
   ·obtain rfl:k=8:=by omega
    have hc0:∀j (hj:j<(Sp.be size n).length),wr.cell? ⟨w.heap.size,8-size+j,none⟩=some (.int .u8 ((Sp.be size n)[j].toNat:Int)):=λj hj=>by
     have hj':j<size:=by simpa using hj
     rw[hblk.cell];exact EM n size j hj' h8 hj
    have hcv:∀o n1 n2,o=8-size->n1=size->(convert 129 9 (.slice (some ⟨w.heap.size,o,none⟩) n1 n2)).run prog wr=.ok (str (Sp.be size n)) wr:=λo n1 n2 ho hn1=>by
     subst ho hn1;exact bt wr 129 9 5 w.heap.size (8-n1) n1 n2 (Sp.be n1 n) underlying129 underlying5 underlying9 (by simp) hc0
    clear hc0;have hcv1:=hcv (8-size) (8-(8-size)) (8-(8-size)) rfl (by omega)
    first
     | (have hcv2:=hcv 0 8 8 (by omega) (by omega);clear hcv;go_wp2;go_ret2;exact⟨rfl,hb⟩)
     | (clear hcv;go_wp2;go_ret2;exact⟨rfl,hb⟩)
theorem Eh (l:Sp.Bs) (a n:Nat) (w:World) (h:a+n<=l.length) (hl:l.length<=1000000000):
 Calls prog 165 #[str l,.int .i64 a,.int .i64 n] w λe w'=>e=.returned (.tuple #[str ((l.drop a).take n),.bool true])/\w=w':=by
 have d1:decide ((a:Int)<0)=false:=by simp
 have d2:decide ((n:Int)<0)=false:=by simp
 have d3:decide ((l.length:Int)<(a:Int))=false:=by simp;omega
 have d4:decide ((l.length:Int)-(a:Int)<(n:Int))=false:=by simp;omega
 have i1:(a:Int)<=(a:Int)+(n:Int):=by omega
 have i2:(a:Int)+(n:Int)<=(l.length:Int):=by omega
 go_enter func165,ntmps165;go_wp2
 go_ret2
 exact⟨by show Ending.returned (.tuple #[.string (ByteArray.extract _ _ _),.bool true])=_;rw[dw,za5],rfl⟩
theorem Uv (m:Nat) (b:UInt8) (h:m<72057594037927936):bits .or .u64 ((m:Int)*256) (IntKind.u64.wrap (b.toNat:Int))=((m*256+b.toNat:Nat):Int):=by
 have hb:=b.toNat_lt;have e:IntKind.u64.wrap (b.toNat:Int)=((b.toNat:Nat):Int):=by
  rw[IntKind.wrap_u64];omega
 have e2:(m:Int)*256=((m*256:Nat):Int):=by omega
 rw[e,e2,u64_or_nat _ _ (by omega) (by omega),nat_join 8 _ _ (by omega) (by omega)]
theorem ee (l:Sp.Bs) (a n:Nat) (w:World) (h:a+n<=l.length) (h1:1<=n) (h8:n<=8) (hl:l.length<=1000000000):
 Calls prog 102 #[str l,.int .i64 a,.int .i64 n] w λe w'=>e=.returned (.tuple #[.int .u64 (Sp.num ((l.drop a).take n)),.bool true])/\zB w w':=by
 have d1:decide ((n:Int)<1)=false:=by simp;omega
 have d2:decide ((8:Int)<(n:Int))=false:=by simp;omega
 go_enter func102,ntmps102;go_wp2_with fail;refine(Eh l a n _ h hl).mono ?_;rintro e w' ⟨rfl,rfl⟩;have hlen:((l.drop a).take n).length=n:=by simp;omega
 generalize hp:(l.drop a).take n=p at*;have HP:=zH hp;clear hp;obtain⟨gc,w1,hcv,hb0,_,hnew,_⟩:=Jn (P:=prog) w 9 129 5 p underlying9 underlying129 underlying5;subst hlen;go_wp2_with fail
 go_loop [6,10,31] (λx _ i=>∃k:Nat,k<=p.length/\i=.int .i64 k/\x=.int .u64 (Sp.num (p.take k))) (λ_ _ i=>p.length-(intOf i).toNat)
 case atStart=>exact⟨0,by omega,rfl,rfl⟩
 case round=>
  obtain⟨k,hk,rfl,rfl⟩:=hrel;by_cases hlt:k<p.length
  ·have hcell:=hnew k hlt;clear hnew hcv;have hm:Sp.num (p.take k)<72057594037927936:=by
    have h3:=Sp.oH (p.take k);have h4:(256:Nat) ^ (p.take k).length<=256 ^ 7:=Nat.pow_le_pow_right (by omega) (by simp;omega);have h5:(256:Nat) ^ 7=72057594037927936:=by decide
    omega
   have hst:=Uv _ p[k] hm;have tO:Sp.num (p.take (k+1))=Sp.num (p.take k)*256+p[k].toNat:=by
    rw[zg hlt,Sp.xO]
   have HX:=zH tO;have HS:=zH hst;clear tO hst;generalize Sp.num (p.take k)=m at*;go_wp2
   go_round
   case rel=>exact⟨k+1,by omega,by go_num,by rw[HX.out,HS.out]⟩
   case measure=>simp[intOf];omega
  ·obtain rfl:k=p.length:=by omega
   clear hnew hcv;go_wp2
   go_ret2
   refine⟨?_,hb0⟩;show Ending.returned (.tuple #[.int .u64 (Sp.num p),.bool true])=_;rw[HP.out]
structure fM (w:World) (g h:Nat) (l:Sp.Bs):Prop where
 bO:aj w g 317 #[.slice (some ⟨h,0,none⟩) l.length l.length]
 bytes:aj w h 5 (eU l).toArray
 some_:16<=l.length
 few:l.length<=4096
theorem fM.ne {w:World} {l:Sp.Bs} (hA:fM w g h l):g≠h:=hA.bO.Tq hA.bytes (by decide)
theorem fM.read {w:World} {l:Sp.Bs} (hA:fM w g h l):iy w g h l:=
 ⟨⟨_,hA.bO,za _,by unfold maxLen;have:=hA.few;omega⟩,λj hj=>by rw[hA.bytes.cell];simpa using pE l _ (by omega),hA.some_,hA.few,hA.bytes.lt⟩
theorem fM.below {w:World} {l:Sp.Bs} (hA:fM w g h l) (hb:zB w w'):fM w' g h l:=
 ⟨hA.bO.below hb hA.bO.lt,hA.bytes.below hb hA.bytes.lt,hA.some_,hA.few⟩
theorem fM.drewN {w:World} {l:Sp.Bs} (hA:fM w g h l) (n:Nat):fM (w.drewN n) g h l:=⟨hA.bO,hA.bytes,hA.some_,hA.few⟩
theorem fM.CO {w:World} {l:Sp.Bs} (hA:fM w g h l) {p:Sp.Bs} (hk:k+p.length<=l.length):fM (w.setRow h (eU (Sp.patch l k p)).toArray) g h (Sp.patch l k p):=by
 have hl:=Sp.di hk;refine⟨?_,hA.bytes.setRow _,by rw[hl];exact hA.some_,by rw[hl];exact hA.few⟩;rw[hl];exact hA.bO.keep (ak _ _ _ _ hA.ne)
theorem qX (l:Sp.Bs):Lib.byteCells l=eU l:=rfl
theorem wk:(prog.info? 5).map (·.size)=some 1:=by kernel_rfl
theorem kC (w:World) (h k n c:Nat) (l p:Sp.Bs) (ty:TypeId) (hB:aj w h 5 (eU l).toArray) (hk:k+p.length<=l.length) (hn:p.length<=n):
 (Builtin.copy_ #[129,9] ty #[.slice (some ⟨h,k,none⟩) n c,str p]).run prog w=.ok (goInt p.length) (w.setRow h (eU (Sp.patch l k p)).toArray):=by
 have:=Lib.run_copy_row_string (P:=prog) w 129 9 ty 5 h k n c ⟨p.toArray⟩ (eU l).toArray 5 underlying129 wk hB (by simpa using hn) (by simpa using hk);rw[this];simp[qX,Sp.patch,eU,List.map_take,List.map_drop]
theorem kz {w:World} {l:Sp.Bs} (hA:fM w g h l) (k n:Nat) (hk:k+2<=l.length) (hn:n<65536):
 Calls prog 227 #[.pointer (some ⟨g,0,none⟩),.int .i64 k,.int .i64 n] w λe w'=>e=.returned (.tuple #[])/\fM w' g h (Sp.patch l k (Sp.be 2 n))/\aa (only h) (only h) w w':=by
 go_enter func227,ntmps227;go_wp2_with fail;refine(d_ n 2 w (by omega) (by omega) (by omega) (by omega)).mono ?_;rintro e w1 ⟨rfl,hb⟩;have oh:=hA.below hb;have hc:=oh.bO.cell 0;have T_:=zH λty=>kC w1 h k (l.length-k) (l.length-k) l (Sp.be 2 n) ty oh.bytes (by simpa using hk) (by simp;omega);have i1:(k:Int)<=(l.length:Int):=by omega
 have hne:¬l.length=k:=by omega
 have HA:=zH oh;clear oh;go_wp2_with (with_reducible refine Lib.wpList_copy_run _ rfl (.tmp 19) (.tmp 20) 129 9 rfl _ _ rfl rfl (T_.out _) ?_)
 go_end0
 refine⟨rfl,HA.out.CO (by simpa using hk),(aa.az hb (only h)).setRow (.inl rfl) _⟩
theorem xg {w:World} {l:Sp.Bs} (hA:fM w g h l) (i f n:Nat) (hi:4+4*i+4<=l.length) (hf:f<65536) (hn:n<65536):
 Calls prog 234 #[.pointer (some ⟨g,0,none⟩),.int .i64 i,.int .i64 f,.int .i64 n] w λe w'=>e=.returned (.tuple #[])/\
  fM w' g h (Sp.patch (Sp.patch l (4+4*i) (Sp.be 2 f)) (4+4*i+2) (Sp.be 2 n))/\aa (only h) (only h) w w':=by
 have i1:(i:Int)<=4096:=by have:=hA.few;omega
 have hl:(Sp.patch l (4+4*i) (Sp.be 2 f)).length=l.length:=Sp.di (by simp;omega);go_enter func234,ntmps234;go_wp2_with fail;rw[show(4+4*(i:Int))=((4+4*i:Nat):Int) by omega];refine(kz hA (4+4*i) f (by omega) hf).mono ?_;rintro e w1 ⟨rfl,oh,gX⟩;have HL:=zH hl;clear hl;go_wp2_with fail;rw[show(4+4*(i:Int)+2)=((4+4*i+2:Nat):Int) by omega];refine(kz oh (4+4*i+2) n (by rw[HL.out];omega) hn).mono ?_;rintro e w2 ⟨rfl,oq,dx⟩;go_wp2_with fail
 go_end0
 exact⟨rfl,oq,gX.trans dx⟩
theorem G_ {w:World} {l:Sp.Bs} (hA:fM w g h l) (p:Sp.Bs) (low:Nat) (AK:Sp.two l 2=low+p.length) (hle:low+p.length<=l.length):
 Calls prog 232 #[.pointer (some ⟨g,0,none⟩),str p] w λe w'=>e=.returned (.int .i64 low)/\
  fM w' g h (Sp.patch (Sp.patch l low p) 2 (Sp.be 2 low))/\aa (only h) (only h) w w':=by
 have hsm:=hA.some_;have jb:=hA.few;have hl:(Sp.patch l low p).length=l.length:=Sp.di hle;have HG:=zH (mz hA.read 2 (by omega));rw[AK] at HG;clear AK;go_enter func232,ntmps232;go_wp2_with fail;refine HG.out.mono ?_;rintro e w1 ⟨rfl,q,rfl⟩;have oh:=hA.drewN q;have hc:=oh.bO.cell 0;have HL:=zH hl;clear hl;have i1:(low:Int)<=(l.length:Int):=by omega
 have i2:(0:Int)<=(low:Int):=by omega
 have i3:((low+p.length:Nat):Int)-(p.length:Int)=(low:Int):=by omega
 have hneg:∃o,(if l.length=low then 0 else low)=o:=⟨_,rfl⟩;rcases za4 low l.length with hlt | hge
 ·have T_:=zH λty=>kC (w.drewN q) h low (l.length-low) (l.length-low) l p ty oh.bytes hle (by omega);have hne:¬l.length=low:=by omega
  have HA:=zH oh;clear oh hneg hA HG;go_wp2_with (with_reducible refine Lib.wpList_copy_run _ rfl (.tmp 16) (.tmp 17) 129 9 rfl _ _ rfl rfl (T_.out _) ?_);refine(kz (HA.out.CO hle) 2 low (by rw[HL.out];omega) (by omega)).mono ?_;rintro e w2 ⟨rfl,oq,dx⟩;go_wp2_with fail;go_ret;exact⟨rfl,oq,(((aa.refl (only h) w).drewN q).setRow (.inl rfl) _).trans dx⟩
 ·obtain rfl:low=l.length:=by omega
  obtain rfl:p=[]:=zy (by omega);have T_:=zH λty=>kC (w.drewN q) h 0 0 0 l [] ty oh.bytes (by simp) (by simp);have hP1:Sp.patch l 0 []=l:=by simp[Sp.patch]
  have VQ:Sp.patch l l.length []=l:=by simp[Sp.patch]
  have HA:=zH (oh.CO (k:=0) (p:=[]) (by simp));rw[hP1] at T_ HA;have Sa:=zH VQ;clear oh hneg hA HG hP1 VQ HL;go_wp2_with (with_reducible refine Lib.wpList_copy_run _ rfl (.tmp 16) (.tmp 17) 129 9 rfl _ _ rfl rfl (T_.out _) ?_);refine(kz HA.out 2 l.length (by omega) (by omega)).mono ?_;rintro e w2 ⟨rfl,oq,dx⟩;go_wp2_with fail;go_ret;exact⟨rfl,by rw[Sa.out];exact oq,(((aa.refl (only h) w).drewN q).setRow (.inl rfl) _).trans dx⟩
theorem Ci:(prog.info? 5).map (λi=>(i.zero,i.size,i.bytes))=some (some (.int .u8 0),1,1):=by kernel_rfl
theorem Ot (n:Nat) (w:World) (h1:16<=n) (h2:n<=4096):
 Calls prog 177 #[.int .i64 n] w λe w'=>∃g h,e=.returned (.tuple #[.pointer (some ⟨g,0,none⟩),.int .i64 0])/\fM w' g h (Sp.bO n [])/\w.heap.size<=g/\w.heap.size<=h/\zB w w':=by
 obtain⟨i0,hi,hz0,hz1,hz2⟩:=info_parts Ci;have hmk:∀W,(Instr.makeSlice 129 (.int .i64 (n:Int)) (.int .i64 (n:Int))).run prog W=.ok (.slice (some ⟨W.heap.size,0,none⟩) n n) (W.alloc (.cells (eU (Sp.zeros n)).toArray 5)):=λW=>by
  have:=jk (P:=prog) 129 5 i0 (.int .u8 0) underlying129 hi hz0 .i64 .i64 n n (za _) (by rw[hz2];omega) (by omega) W;rw[this,hz1,Nat.mul_one,show(Value.int .u8 0).cells=#[.int .u8 0] from rfl,qK];simp[eU,Sp.zeros]
 clear hi hz0 hz1 hz2;go_enter func177,ntmps177;go_wp2_with fail;have hW:fM ((w.alloc (.cells (eU (Sp.zeros n)).toArray 5)).alloc (.cells #[.slice (some ⟨w.heap.size,0,none⟩) n n] 317)) (w.heap.size+1) w.heap.size (Sp.zeros n):=by
  have hz:(Sp.zeros n).length=n:=by simp[Sp.zeros]
  refine⟨?_,(aj.new w _ _).alloc _,by omega,by omega⟩;rw[hz];have:=aj.new (w.alloc (.cells (eU (Sp.zeros n)).toArray 5)) 317 #[.slice (some ⟨w.heap.size,0,none⟩) n n]
  rwa [World.size_alloc] at this
 refine(kz hW 2 n (by simp[Sp.zeros];omega) (by omega)).mono ?_;rintro e w2 ⟨rfl,oq,dx⟩;have HAR:=zH (Sp.RF n (by omega));go_wp2_with fail
 go_ret2
 refine⟨_,_,rfl,by rw[HAR.out];exact oq,by omega,za _,?_⟩;exact(((Below.refl _ w).alloc (za _) _).alloc (by simp) _).trans (dx.below (by simp;omega) (λb hb=>by rw[hb];exact za _))
theorem G9 {w:World} {l:Sp.Bs} (hA:iy w g h l):
 Calls prog 180 #[.pointer (some ⟨g,0,none⟩)] w λe w'=>e=.returned (str l)/\w=w':=by
 obtain⟨⟨c,h1,hlc,hcm⟩,hb,h3,h4,_⟩:=id hA;have hc:=h1.cell 0;have hcb:=bt (P:=prog) w 129 9 5 h 0 l.length c l underlying129 underlying5 underlying9 rfl hb;go_enter func180,ntmps180;go_wp2_with fail;refine(kf hA).mono ?_;rintro e w' ⟨rfl,rfl⟩;go_wp2_with fail;go_ret;exact⟨rfl,rfl⟩
def Lt (l:Sp.Bs):Nat->Nat
 | 0=>0
 | k+1=>Lt l k+Sp.two l (4+4*k+2)
theorem Oi (l:Sp.Bs):∀k,Lt l k<=65535*k
 | 0=>za _
 | k+1=>by
  have h1:=Oi l k;have h2:=mY l (4+4*k+2);unfold Lt;omega
theorem LI {w:World} {l:Sp.Bs} (hA:iy w g h l) (hm:4+4*Sp.two l 0<=l.length):
 Calls prog 229 #[.pointer (some ⟨g,0,none⟩)] w λe w'=>e=.returned (.int .i64 ((l.length:Int)-4-4*Sp.two l 0-Lt l (Sp.two l 0)))/\∃n,w'=w.drewN n:=by
 obtain⟨⟨c,h1,hlc,hcm⟩,hb,h3,h4,_⟩:=id hA;have hc:=h1.cell 0;have HN:=zH (kf hA);have HL:=zH λn=>kA (hA.drewN n);have HE:=zH λn i hi=>ry (hA.drewN n) i hi;have HS:=zH (Oi l);have wK:Hid (∀k,Lt l (k+1)=Lt l k+Sp.two l (4+4*k+2)):=λ_=>rfl;clear hA h1 hb;generalize z_:Sp.two l 0=m at*;have HM:=zH z_;clear z_;go_enter func229,ntmps229;go_wp2_with fail;refine HN.out.mono ?_;rintro e w' ⟨rfl,rfl⟩;go_wp2_with fail;go_quiet ((go_at_call 199;exact Calls.quiet_of (HL.out _)));go_wp2_with fail;refine(HL.out _).mono ?_;rintro e w' ⟨rfl,q0,rfl⟩;go_wp2_with fail;go_loopw [3,21] (λv i wr=>∃k:Nat,k<=m/\i=.int .i64 k/\v=.int .i64 ((l.length:Int)-4-4*m-Lt l k)/\∃q,wr=w.drewN q) (λ_ i _=>m-(intOf i).toNat)
 case atStart=>exact⟨0,by omega,rfl,by simp[Lt],_,rfl⟩
 case round=>
  obtain⟨k,hk,rfl,rfl,q,rfl⟩:=hrel;by_cases hlt:k<m
  ·have hek:=zH (HE.out q k (by omega));have b1:=HS.out k;have b2:=mY l (4+4*k+2);have HX:=zH (wK.out k);generalize hF:Sp.two l (4+4*k)=F at*;generalize hN:Sp.two l (4+4*k+2)=N at*;generalize hSz:Lt l k=S at*;have b3:N<65536:=by rw[<-hN];exact mY _ _
   have b4:S<=65535*k:=by rw[<-hSz];exact HS.out k
   clear hF hN b1 b2 hSz;go_wp2_with fail;refine hek.out.mono ?_;rintro e w' ⟨rfl,q1,rfl⟩;go_wp2_with fail;go_roundw
   case rel=>exact⟨k+1,by omega,by go_num,by rw[HX.out];go_num,_,rfl⟩
   case measure=>simp[intOf];omega
  ·obtain rfl:k=m:=by omega
   go_wp2_with fail;go_ret;exact⟨rfl,_,rfl⟩
theorem yO (a:Addr) (c:Nat) (w:World):
 Calls prog 233 #[.slice (some a) 0 c] w λe w'=>(∃A c',e=.returned (.slice A 0 c'))/\zB w w':=by
 obtain⟨i0,hi,hz0,hz1,hz2⟩:=info_parts Ci;have hq:=λw=>Lib.run_eql_slice_nil (P:=prog) w 129 5 (some a) 0 c 0 0 underlying129;go_enter func233,ntmps233;go_wp2_with (at_builtin;refine wpList_append_own _ rfl _ _ 129 rfl w.heap.size 5 i0 (.int .u8 0) 1 1 underlying129 hi hz0 hz1 hz2 rfl (by omega) _ _ _ rfl (World.ownsRow_made w #[] 0 (za _) (za0 _) (by simp)) a 0 c [] rfl rfl (λj u hj=>by simp at hj) (by simp) (by simp[maxLen]) (by omega) (by simp) ?_);intro v' w1 hown hgrow hnil;go_wp2_with fail;go_ret;have hb:zB w w1:=((Below.refl _ w).alloc (za _) _).grown hgrow (by simp) (by simp[Value.ownBlock]);refine⟨?_,hb⟩;rcases hown.2 with⟨rfl,_⟩ | ⟨g,cap,cur,rfl,_⟩
 ·exact⟨none,0,rfl⟩
 ·exact⟨some ⟨g,0,none⟩,cap,rfl⟩
theorem Et {rows:List Sp.Bs} (h:4+4*rows.length+Sp.total rows<=size) (hs:size<=4096):∀k,k<=rows.length->Lt (Sp.bO size rows) k=Sp.total (rows.take k)
 | 0,_=>by simp[Lt]
 | k+1,hk=>by
  have hlt:k<rows.length:=by omega
  have hle:=Sp.b_ rows (k+1);have htk:=Sp.bL rows k hlt;unfold Lt;rw[Et h hs k (by omega),Sp.pF hlt (by omega),htk]
theorem Oq {w:World} {rows:List Sp.Bs} (r:Sp.Bs) (hA:fM w g h (Sp.bO size rows)) (hfit:8+4*rows.length+Sp.total rows+r.length<=size) (hs:size<=4096):
 Calls prog 178 #[.pointer (some ⟨g,0,none⟩),.int .i64 rows.length,str r] w λe w'=>e=.returned (.int .i64 0)/\fM w' g h (Sp.bO size (rows++[r]))/\aa (only h) (only h) w w':=by
 have hl:(Sp.bO size rows).length=size:=Sp.iw (by omega);have hc0:Sp.two (Sp.bO size rows) 0=rows.length:=Sp.rR (by omega);have hc2:Sp.two (Sp.bO size rows) 2=size-Sp.total rows:=Sp.F6 (by omega);have hsz:Lt (Sp.bO size rows) rows.length=Sp.total rows:=by rw[Et (by omega) hs _ (za _),zL]
 have HP:=zH (Sp.RD (size:=size) (rows:=rows) (r:=r) hfit);have HN:=zH (kf hA.read);have hfree:=λn=>LI (hA.read.drewN n) (by rw[hc0,hl];omega);have MD:=λn=>Ew (hA.read.drewN n);have hbel:=λn=>G_ (hA.drewN n) r (size-Sp.total rows-r.length) (by rw[hc2];omega) (by rw[hl];omega);have hlen:=λn=>kA (hA.read.drewN n);have oK:Sp.two (Sp.patch (Sp.patch (Sp.bO size rows) (size-Sp.total rows-r.length) r) 2 (Sp.be 2 (size-Sp.total rows-r.length))) 0=rows.length:=by
  rw[Sp.wV (by omega) (by rw[Sp.di (by rw[hl];omega),hl];omega),Sp.wV (by omega) (by rw[hl];omega),hc0]
 have hpl:(Sp.patch (Sp.patch (Sp.bO size rows) (size-Sp.total rows-r.length) r) 2 (Sp.be 2 (size-Sp.total rows-r.length))).length=size:=by
  rw[Sp.di (by rw[Sp.di (by rw[hl];omega),hl];simp;omega),Sp.di (by rw[hl];omega),hl]
 rw[hc0] at hlen MD hfree;rw[hc2] at MD;rw[hsz,hl] at hfree;have HF:=zH hfree;have HG:=zH MD;have HB:=zH hbel;have HL:=zH hlen;have V_:=zH oK;have tR:=zH hpl;clear hfree MD hbel hlen hc0 hc2 hsz hl oK hpl hA;have T_:=fun(W:World) (ty:TypeId) (d A:Option Addr) (dl dc sc:Nat)=>run_copy_none (P:=prog) W 129 129 ty 5 d A dl dc 0 sc underlying129 wk (Nat.zero_min _);generalize hm:rows.length=m at*;generalize gW:Sp.total rows=tt at*;obtain⟨low,AK⟩:∃low,low+r.length+tt=size:=⟨size-tt-r.length,by omega⟩;have e1:size-tt-r.length=low:=by omega
 have e2:size-tt=low+r.length:=by omega
 rw[e1] at HB HP V_ tR;rw[e2] at HG;have d1:decide ((m:Int)<(m:Int))=false:=by simp
 have d2:decide ((size:Int)-4-4*(m:Int)-(tt:Int)<(r.length:Int)+4)=false:=by rw[ze];omega
 have d3:decide (((low+r.length:Nat):Int)-4-4*(m:Int)<(r.length:Int)+4)=false:=by rw[ze];omega
 have HM:=zH hm;have HT:=zH gW;clear e1 e2 hm gW;go_enter func178,ntmps178;go_wp2_with fail;refine HN.out.mono ?_;rintro e w' ⟨rfl,rfl⟩;go_wp2_with fail;refine(HL.out 0).mono ?_;rintro e w' ⟨rfl,q,rfl⟩;go_wp2_with fail;refine(HF.out _).mono ?_;rintro e w' ⟨rfl,q2,rfl⟩;go_wp2_with fail;refine(HG.out _).mono ?_;rintro e w' ⟨rfl,q3,rfl⟩;go_wp2_with fail;refine(HB.out _).mono ?_;rintro e w2 ⟨rfl,oq,dx⟩;go_wp2_with fail;have hl2:=kA oq.read;rw[V_.out] at hl2;have vp:=zH hl2;clear hl2;refine vp.out.mono ?_;rintro e w' ⟨rfl,q4,rfl⟩;have KD:=oq.drewN q4;generalize hL2:Sp.patch (Sp.patch (Sp.bO size rows) low r) 2 (Sp.be 2 low)=L2 at*;have HLL:=zH hL2;clear hL2 vp oq;have hc:=KD.bO.cell 0;rw[tR.out] at hc;have kW:=KD.bO.lt;have HA:=zH KD;clear KD;have i1:(m:Int)<=4096:=by omega
 have i2:(4:Int)+4*(m:Int)+4<=(size:Int):=by omega
 have i3:(4:Int)+4*(m:Int)<=(size:Int):=by omega
 have i4:((4:Int)+4*(m:Int)).toNat=4+4*m:=by omega
 have i5:((4:Int)+4*(m:Int)+4).toNat=4+4*m+4:=by omega
 have i6:IntKind.i64.wrap (4*(m:Int))=4*(m:Int):=IntWalk.i64_in _ (by omega);have i7:IntKind.i64.wrap (4+4*(m:Int))=4+4*(m:Int):=IntWalk.i64_in _ (by omega);have i8:IntKind.i64.wrap (4+4*(m:Int)+4)=4+4*(m:Int)+4:=IntWalk.i64_in _ (by omega);have i9:(0:Int)<=4+4*(m:Int):=by omega
 have i10:(0:Int)<=4+4*(m:Int)+4:=by omega
 have hne:¬size=4+4*m:=by omega
 have htw:aa (only h) (only h) w (w2.drewN q4):=(((aa.refl (only h) w).drewN _).trans dx).drewN _;generalize w2.drewN q4=w3 at*;clear dx;rcases za4 (4+4*m+4) size with hx | hx
 ·have hne2:¬size=4+4*m+4:=by omega
  go_wp2_with fail
  go_region_held3 (λw'=>w'.cell? ⟨g,0,none⟩=some (.slice (some ⟨h,0,none⟩) size size)/\zB w3 w')
   (first
    | exact⟨hc,(zR _).drew⟩
    | (go_split_ands;exact⟨((ej hb).1 _ _ (zf kW (by assumption:Below _ _ _).size)).trans (by assumption),(by assumption:zB w3 _).trans (hb.mono (by assumption:zB w3 _).size)⟩)
    | go_keep)
   (first
    | (go_at_call 233;refine(yO _ _ _).mono ?_;rintro e w4 ⟨⟨A,c',rfl⟩,hb⟩))
  have hb4:zB w3 w4:=by
   rename_i hh;exact hh.2
  have om:=HA.out.below hb4;have NR:=zH om;have j1:(m:Int)+1<=4097:=by omega
  clear om hb T_ hc;go_wp2_with fail;rw[show(m:Int)+1=((m+1:Nat):Int) by omega];refine(kz NR.out 0 (m+1) (by rw[tR.out];omega) (by omega)).mono ?_;rintro e w5 ⟨rfl,Y4,iV⟩;have Fs:(Sp.patch L2 0 (Sp.be 2 (m+1))).length=L2.length:=Sp.di (by rw[tR.out,Sp.aV];omega);have HL5:=zH Fs;clear Fs;go_wp2_with fail;refine(xg Y4 m low r.length (by rw[HL5.out,tR.out];omega) (by omega) (by omega)).mono ?_;rintro e w6 ⟨rfl,Ut,iA⟩;go_wp2_with fail;go_ret;refine⟨rfl,?_,((htw.next hb4).trans iV).trans iA⟩;rw[<-HP.out];exact Ut
 ·obtain rfl:size=4+4*m+4:=by omega
  have k1:(4:Int)+4*(m:Int)<=4+4*(m:Int)+4:=by omega
  have k2:4+4*m<=4+4*m+4:=by omega
  go_wp2_with fail
  go_region_held3 (λw'=>w'.cell? ⟨g,0,none⟩=some (.slice (some ⟨h,0,none⟩) (4+4*m+4) (4+4*m+4))/\zB w3 w')
   (first
    | exact⟨hc,(zR _).drew⟩
    | (go_split_ands;exact⟨((ej hb).1 _ _ (zf kW (by assumption:Below _ _ _).size)).trans (by assumption),(by assumption:zB w3 _).trans (hb.mono (by assumption:zB w3 _).size)⟩)
    | go_keep)
   (first
    | (go_at_call 233;refine(yO _ _ _).mono ?_;rintro e w4 ⟨⟨A,c',rfl⟩,hb⟩))
  have hb4:zB w3 w4:=by
   rename_i hh;exact hh.2
  have om:=HA.out.below hb4;have NR:=zH om;have j1:(m:Int)+1<=4097:=by omega
  clear om hb T_ hc;go_wp2_with fail;rw[show(m:Int)+1=((m+1:Nat):Int) by omega];refine(kz NR.out 0 (m+1) (by rw[tR.out];omega) (by omega)).mono ?_;rintro e w5 ⟨rfl,Y4,iV⟩;have Fs:(Sp.patch L2 0 (Sp.be 2 (m+1))).length=L2.length:=Sp.di (by rw[tR.out,Sp.aV];omega);have HL5:=zH Fs;clear Fs;go_wp2_with fail;refine(xg Y4 m low r.length (by rw[HL5.out,tR.out];omega) (by omega) (by omega)).mono ?_;rintro e w6 ⟨rfl,Ut,iA⟩;go_wp2_with fail;go_ret;refine⟨rfl,?_,((htw.next hb4).trans iV).trans iA⟩;rw[<-HP.out];exact Ut
abbrev aB (c0 c1 c2 c3 c4 c5:Value) (s:Sp.Bs) (at_:Nat) (rd bad:Bool):Array Value:=#[c0,c1,c2,c3,c4,c5,str s,.int .i64 at_,.bool rd,.bool bad]
theorem uV {w:World} {bx ox:Nat} {s:Sp.Bs} {at_:Nat} (hH:aj w b 271 (aB c0 c1 c2 c3 c4 c5 s at_ false false))
 (hx:w.cell? ⟨bx,ox,none⟩=some (.int .u8 n)) (h1:1<=size) (h8:size<=8) (hn:n<256 ^ size) (_hn64:n<256) (hlen:s.length<=1000000):
 Calls prog 274 #[.pointer (some ⟨b,0,none⟩),.pointer (some ⟨bx,ox,none⟩),.int .i64 size] w λe w'=>e=.returned (.tuple #[])/\
  aj w' b 271 (aB c0 c1 c2 c3 c4 c5 (s++Sp.be size n) at_ false false)/\aa (only b) (only b) w w':=by
 have rK:=hH.cell 6;have sY:=hH.cell 8;have NK:=hH.cell 9;simp only[aB,zGA,zGB,zGC] at rK sY NK;have HH:=zH hH;have HP:=zH (d_ n size w h1 h8 hn (by omega));clear hH hn;go_enter func274,ntmps274;go_wp2_with fail;refine HP.out.mono ?_;rintro e w1 ⟨rfl,hb⟩;have jo:=HH.out.below hb HH.out.lt;have d6:=jo.cell 6;have d9:=jo.cell 9;have f6:=jo.frozen 6;have f9:=jo.frozen 9;simp only[aB,zGA,zGB,zGC] at d6 d9;have uJ:=zH jo;clear rK sY NK hx jo;go_wp2_with fail
 go_region
 go_end0
 refine⟨rfl,?_,(((aa.az hb (only b)).setCell (p:=⟨b,6,none⟩) (.inl rfl) _).setCell (p:=⟨b,9,none⟩) (.inl rfl) _).drew⟩;have h2:=((uJ.out.a_ 6 (.string (⟨s.toArray⟩++⟨(Sp.be size n).toArray⟩))).a_ 9 (.bool false)).drew;have e2:((aB c0 c1 c2 c3 c4 c5 s at_ false false).setIfInBounds 6 (.string (⟨s.toArray⟩++⟨(Sp.be size n).toArray⟩))).setIfInBounds 9 (.bool false)=aB c0 c1 c2 c3 c4 c5 (s++Sp.be size n) at_ false false:=by
  rw[aP];rfl
 rw[e2] at h2;exact h2
theorem uW {w:World} {o:Nat} {cs:Array Value} {s:Sp.Bs} {at_:Nat} {v0:Value} (hcs:cs=aB c0 c1 c2 c3 c4 c5 s at_ true false) (hH:aj w b 271 cs)
 (ho:o<5) (hx:cs[o]? =some v0) (h1:1<=size) (h8:size<=8) (hat:at_+size<=s.length) (hN:Sp.num ((s.drop at_).take size)=N) (_hn64:N<256) (hlen:s.length<=1000000):
 Calls prog 274 #[.pointer (some ⟨b,0,none⟩),.pointer (some ⟨b,o,none⟩),.int .i64 size] w λe w'=>e=.returned (.tuple #[])/\
  aj w' b 271 ((aB c0 c1 c2 c3 c4 c5 s (at_+size) true false).setIfInBounds o (.int .u8 N))/\aa (only b) (only b) w w':=by
 have rK:=hH.cell 6;have ur:=hH.cell 7;have sY:=hH.cell 8;rw[hcs] at rK ur sY;simp only[aB,zGA,zGB,zGC] at rK ur sY;have HH:=zH hH;have HC:=zH hcs;have HP:=zH λn=>ee s at_ size (w.drewN n) hat h1 h8 (by omega);rw[hN] at HP;have HX:=zH hx;have o7:¬o=7:=by omega
 have o7':¬7=o:=by omega
 have o9:¬o=9:=by omega
 have o9':¬9=o:=by omega
 clear hH hcs hN hx;go_enter func274,ntmps274;go_wp2_with fail;have hlt:=HH.out.lt
 go_region_held3 (λw'=>w'.cell? ⟨b,6,none⟩=some (str s)/\w'.cell? ⟨b,7,none⟩=some (.int .i64 at_)/\zB w w')
  (first
   | exact⟨rK,ur,(zR _).drew⟩
   | (go_split_ands;exact⟨((ej hb).1 _ _ (zf hlt (by assumption:Below _ _ _).size)).trans (by assumption),((ej hb).1 _ _ (zf hlt (by assumption:Below _ _ _).size)).trans (by assumption),(by assumption:zB w _).trans (hb.mono (by assumption:zB w _).size)⟩)
   | go_keep)
  (first
   | (go_at_call 102;refine(HP.out 1).mono ?_;rintro e w1 ⟨rfl,hb⟩))
 have hb4:zB w w1:=by
  rename_i hh;exact hh.2.2
 have jo:=HH.out.below hb4 hlt;have d0:=(jo.cell o).trans HX.out;have d7:=jo.cell 7;have d9:=jo.cell 9;have f0:=jo.frozen o;have f7:=jo.frozen 7;have f9:=jo.frozen 9;rw[HC.out] at d7 d9;simp only[aB,zGA,zGB,zGC] at d7 d9;have uJ:=zH jo;clear rK ur sY jo hb;go_wp2_with fail;refine bodyPost_ret (results_none rfl _ _ _) rfl ⟨rfl,?_,((((aa.az hb4 (only b)).setCell (p:=⟨b,o,none⟩) (.inl rfl) _).setCell (p:=⟨b,9,none⟩) (.inl rfl) _).setCell (p:=⟨b,7,none⟩) (.inl rfl) _)⟩;have h2:=(((uJ.out.a_ o (.int .u8 N)).a_ 9 (.bool false)).a_ 7 (.int .i64 ((at_:Int)+(size:Int))));have e2:(((cs.setIfInBounds o (.int .u8 N)).setIfInBounds 9 (.bool false)).setIfInBounds 7 (.int .i64 ((at_:Int)+(size:Int))))=(aB c0 c1 c2 c3 c4 c5 s (at_+size) true false).setIfInBounds o (.int .u8 N):=by
  rw[HC.out,<-Int.natCast_add]
  match o,ho with
  | 0,_=>rfl
  | 1,_=>rfl
  | 2,_=>rfl
  | 3,_=>rfl
  | 4,_=>rfl
 rw[e2] at h2;exact h2
theorem nu {w:World} {bx ox:Nat} {s:Sp.Bs} {at_:Nat} (hH:aj w b 271 (aB c0 c1 c2 c3 c4 c5 s at_ false false))
 (hx:w.cell? ⟨bx,ox,none⟩=some (.int .u32 n)) (h1:1<=size) (h8:size<=8) (hn:n<256 ^ size) (_hn64:n<4294967296) (hlen:s.length<=1000000):
 Calls prog 275 #[.pointer (some ⟨b,0,none⟩),.pointer (some ⟨bx,ox,none⟩),.int .i64 size] w λe w'=>e=.returned (.tuple #[])/\
  aj w' b 271 (aB c0 c1 c2 c3 c4 c5 (s++Sp.be size n) at_ false false)/\aa (only b) (only b) w w':=by
 have rK:=hH.cell 6;have sY:=hH.cell 8;have NK:=hH.cell 9;simp only[aB,zGA,zGB,zGC] at rK sY NK;have HH:=zH hH;have HP:=zH (d_ n size w h1 h8 hn (by omega));clear hH hn;go_enter func275,ntmps275;go_wp2_with fail;refine HP.out.mono ?_;rintro e w1 ⟨rfl,hb⟩;have jo:=HH.out.below hb HH.out.lt;have d6:=jo.cell 6;have d9:=jo.cell 9;have f6:=jo.frozen 6;have f9:=jo.frozen 9;simp only[aB,zGA,zGB,zGC] at d6 d9;have uJ:=zH jo;clear rK sY NK hx jo;go_wp2_with fail
 go_region
 go_end0
 refine⟨rfl,?_,(((aa.az hb (only b)).setCell (p:=⟨b,6,none⟩) (.inl rfl) _).setCell (p:=⟨b,9,none⟩) (.inl rfl) _).drew⟩;have h2:=((uJ.out.a_ 6 (.string (⟨s.toArray⟩++⟨(Sp.be size n).toArray⟩))).a_ 9 (.bool false)).drew;have e2:((aB c0 c1 c2 c3 c4 c5 s at_ false false).setIfInBounds 6 (.string (⟨s.toArray⟩++⟨(Sp.be size n).toArray⟩))).setIfInBounds 9 (.bool false)=aB c0 c1 c2 c3 c4 c5 (s++Sp.be size n) at_ false false:=by
  rw[aP];rfl
 rw[e2] at h2;exact h2
theorem sH {w:World} {o:Nat} {cs:Array Value} {s:Sp.Bs} {at_:Nat} {v0:Value} (hcs:cs=aB c0 c1 c2 c3 c4 c5 s at_ true false) (hH:aj w b 271 cs)
 (ho:o<5) (hx:cs[o]? =some v0) (h1:1<=size) (h8:size<=8) (hat:at_+size<=s.length) (hN:Sp.num ((s.drop at_).take size)=N) (_hn64:N<4294967296) (hlen:s.length<=1000000):
 Calls prog 275 #[.pointer (some ⟨b,0,none⟩),.pointer (some ⟨b,o,none⟩),.int .i64 size] w λe w'=>e=.returned (.tuple #[])/\
  aj w' b 271 ((aB c0 c1 c2 c3 c4 c5 s (at_+size) true false).setIfInBounds o (.int .u32 N))/\aa (only b) (only b) w w':=by
 have rK:=hH.cell 6;have ur:=hH.cell 7;have sY:=hH.cell 8;rw[hcs] at rK ur sY;simp only[aB,zGA,zGB,zGC] at rK ur sY;have HH:=zH hH;have HC:=zH hcs;have HP:=zH λn=>ee s at_ size (w.drewN n) hat h1 h8 (by omega);rw[hN] at HP;have HX:=zH hx;have o7:¬o=7:=by omega
 have o7':¬7=o:=by omega
 have o9:¬o=9:=by omega
 have o9':¬9=o:=by omega
 clear hH hcs hN hx;go_enter func275,ntmps275;go_wp2_with fail;have hlt:=HH.out.lt
 go_region_held3 (λw'=>w'.cell? ⟨b,6,none⟩=some (str s)/\w'.cell? ⟨b,7,none⟩=some (.int .i64 at_)/\zB w w')
  (first
   | exact⟨rK,ur,(zR _).drew⟩
   | (go_split_ands;exact⟨((ej hb).1 _ _ (zf hlt (by assumption:Below _ _ _).size)).trans (by assumption),((ej hb).1 _ _ (zf hlt (by assumption:Below _ _ _).size)).trans (by assumption),(by assumption:zB w _).trans (hb.mono (by assumption:zB w _).size)⟩)
   | go_keep)
  (first
   | (go_at_call 102;refine(HP.out 1).mono ?_;rintro e w1 ⟨rfl,hb⟩))
 have hb4:zB w w1:=by
  rename_i hh;exact hh.2.2
 have jo:=HH.out.below hb4 hlt;have d0:=(jo.cell o).trans HX.out;have d7:=jo.cell 7;have d9:=jo.cell 9;have f0:=jo.frozen o;have f7:=jo.frozen 7;have f9:=jo.frozen 9;rw[HC.out] at d7 d9;simp only[aB,zGA,zGB,zGC] at d7 d9;have uJ:=zH jo;clear rK ur sY jo hb;go_wp2_with fail;refine bodyPost_ret (results_none rfl _ _ _) rfl ⟨rfl,?_,((((aa.az hb4 (only b)).setCell (p:=⟨b,o,none⟩) (.inl rfl) _).setCell (p:=⟨b,9,none⟩) (.inl rfl) _).setCell (p:=⟨b,7,none⟩) (.inl rfl) _)⟩;have h2:=(((uJ.out.a_ o (.int .u32 N)).a_ 9 (.bool false)).a_ 7 (.int .i64 ((at_:Int)+(size:Int))));have e2:(((cs.setIfInBounds o (.int .u32 N)).setIfInBounds 9 (.bool false)).setIfInBounds 7 (.int .i64 ((at_:Int)+(size:Int))))=(aB c0 c1 c2 c3 c4 c5 s (at_+size) true false).setIfInBounds o (.int .u32 N):=by
  rw[HC.out,<-Int.natCast_add]
  match o,ho with
  | 0,_=>rfl
  | 1,_=>rfl
  | 2,_=>rfl
  | 3,_=>rfl
  | 4,_=>rfl
 rw[e2] at h2;exact h2
theorem CR {w:World} {bx ox:Nat} {s:Sp.Bs} {at_:Nat} (hH:aj w b 271 (aB c0 c1 c2 c3 c4 c5 s at_ false false))
 (hx:w.cell? ⟨bx,ox,none⟩=some (.int .u64 n)) (h1:1<=size) (h8:size<=8) (hn:n<256 ^ size) (_hn64:n<18446744073709551616) (hlen:s.length<=1000000):
 Calls prog 276 #[.pointer (some ⟨b,0,none⟩),.pointer (some ⟨bx,ox,none⟩),.int .i64 size] w λe w'=>e=.returned (.tuple #[])/\
  aj w' b 271 (aB c0 c1 c2 c3 c4 c5 (s++Sp.be size n) at_ false false)/\aa (only b) (only b) w w':=by
 have rK:=hH.cell 6;have sY:=hH.cell 8;have NK:=hH.cell 9;simp only[aB,zGA,zGB,zGC] at rK sY NK;have HH:=zH hH;have HP:=zH (d_ n size w h1 h8 hn (by omega));clear hH hn;go_enter func276,ntmps276;go_wp2_with fail;refine HP.out.mono ?_;rintro e w1 ⟨rfl,hb⟩;have jo:=HH.out.below hb HH.out.lt;have d6:=jo.cell 6;have d9:=jo.cell 9;have f6:=jo.frozen 6;have f9:=jo.frozen 9;simp only[aB,zGA,zGB,zGC] at d6 d9;have uJ:=zH jo;clear rK sY NK hx jo;go_wp2_with fail
 go_region
 go_end0
 refine⟨rfl,?_,(((aa.az hb (only b)).setCell (p:=⟨b,6,none⟩) (.inl rfl) _).setCell (p:=⟨b,9,none⟩) (.inl rfl) _).drew⟩;have h2:=((uJ.out.a_ 6 (.string (⟨s.toArray⟩++⟨(Sp.be size n).toArray⟩))).a_ 9 (.bool false)).drew;have e2:((aB c0 c1 c2 c3 c4 c5 s at_ false false).setIfInBounds 6 (.string (⟨s.toArray⟩++⟨(Sp.be size n).toArray⟩))).setIfInBounds 9 (.bool false)=aB c0 c1 c2 c3 c4 c5 (s++Sp.be size n) at_ false false:=by
  rw[aP];rfl
 rw[e2] at h2;exact h2
theorem CS {w:World} {o:Nat} {cs:Array Value} {s:Sp.Bs} {at_:Nat} {v0:Value} (hcs:cs=aB c0 c1 c2 c3 c4 c5 s at_ true false) (hH:aj w b 271 cs)
 (ho:o<5) (hx:cs[o]? =some v0) (h1:1<=size) (h8:size<=8) (hat:at_+size<=s.length) (hN:Sp.num ((s.drop at_).take size)=N) (_hn64:N<18446744073709551616) (hlen:s.length<=1000000):
 Calls prog 276 #[.pointer (some ⟨b,0,none⟩),.pointer (some ⟨b,o,none⟩),.int .i64 size] w λe w'=>e=.returned (.tuple #[])/\
  aj w' b 271 ((aB c0 c1 c2 c3 c4 c5 s (at_+size) true false).setIfInBounds o (.int .u64 N))/\aa (only b) (only b) w w':=by
 have rK:=hH.cell 6;have ur:=hH.cell 7;have sY:=hH.cell 8;rw[hcs] at rK ur sY;simp only[aB,zGA,zGB,zGC] at rK ur sY;have HH:=zH hH;have HC:=zH hcs;have HP:=zH λn=>ee s at_ size (w.drewN n) hat h1 h8 (by omega);rw[hN] at HP;have HX:=zH hx;have o7:¬o=7:=by omega
 have o7':¬7=o:=by omega
 have o9:¬o=9:=by omega
 have o9':¬9=o:=by omega
 clear hH hcs hN hx;go_enter func276,ntmps276;go_wp2_with fail;have hlt:=HH.out.lt
 go_region_held3 (λw'=>w'.cell? ⟨b,6,none⟩=some (str s)/\w'.cell? ⟨b,7,none⟩=some (.int .i64 at_)/\zB w w')
  (first
   | exact⟨rK,ur,(zR _).drew⟩
   | (go_split_ands;exact⟨((ej hb).1 _ _ (zf hlt (by assumption:Below _ _ _).size)).trans (by assumption),((ej hb).1 _ _ (zf hlt (by assumption:Below _ _ _).size)).trans (by assumption),(by assumption:zB w _).trans (hb.mono (by assumption:zB w _).size)⟩)
   | go_keep)
  (first
   | (go_at_call 102;refine(HP.out 1).mono ?_;rintro e w1 ⟨rfl,hb⟩))
 have hb4:zB w w1:=by
  rename_i hh;exact hh.2.2
 have jo:=HH.out.below hb4 hlt;have d0:=(jo.cell o).trans HX.out;have d7:=jo.cell 7;have d9:=jo.cell 9;have f0:=jo.frozen o;have f7:=jo.frozen 7;have f9:=jo.frozen 9;rw[HC.out] at d7 d9;simp only[aB,zGA,zGB,zGC] at d7 d9;have uJ:=zH jo;clear rK ur sY jo hb;go_wp2_with fail;refine bodyPost_ret (results_none rfl _ _ _) rfl ⟨rfl,?_,((((aa.az hb4 (only b)).setCell (p:=⟨b,o,none⟩) (.inl rfl) _).setCell (p:=⟨b,9,none⟩) (.inl rfl) _).setCell (p:=⟨b,7,none⟩) (.inl rfl) _)⟩;have h2:=(((uJ.out.a_ o (.int .u64 N)).a_ 9 (.bool false)).a_ 7 (.int .i64 ((at_:Int)+(size:Int))));have e2:(((cs.setIfInBounds o (.int .u64 N)).setIfInBounds 9 (.bool false)).setIfInBounds 7 (.int .i64 ((at_:Int)+(size:Int))))=(aB c0 c1 c2 c3 c4 c5 s (at_+size) true false).setIfInBounds o (.int .u64 N):=by
  rw[HC.out,<-Int.natCast_add]
  match o,ho with
  | 0,_=>rfl
  | 1,_=>rfl
  | 2,_=>rfl
  | 3,_=>rfl
  | 4,_=>rfl
 rw[e2] at h2;exact h2
theorem Xg {w:World} {bx:Nat} {s:Sp.Bs} {at_:Nat} {v0:Value} (hH:aj w b 271 (aB c0 c1 c2 c3 c4 c5 s at_ true false))
 (hX:aj w bx 61 #[v0]) (h1:1<=size) (h8:size<=8) (hat:at_+size<=s.length) (hN:Sp.num ((s.drop at_).take size)=N) (lZ:N<4294967296) (hlen:s.length<=1000000):
 Calls prog 275 #[.pointer (some ⟨b,0,none⟩),.pointer (some ⟨bx,0,none⟩),.int .i64 size] w λe w'=>e=.returned (.tuple #[])/\
  aj w' b 271 (aB c0 c1 c2 c3 c4 c5 s (at_+size) true false)/\aj w' bx 61 #[.int .u32 N]/\aa (λx=>x=b\/x=bx) (λx=>x=b\/x=bx) w w':=by
 have hne:b≠bx:=hH.Tq hX (by decide);have hne':bx≠b:=hne.symm;have rK:=hH.cell 6;have ur:=hH.cell 7;have sY:=hH.cell 8;simp only[aB,zGA,zGB,zGC] at rK ur sY;have HH:=zH hH;have HX:=zH hX;have HP:=zH λn=>ee s at_ size (w.drewN n) hat h1 h8 (by omega);rw[hN] at HP;clear hH hN hX;go_enter func275,ntmps275;go_wp2_with fail;have hlt:=HH.out.lt
 go_region_held3 (λw'=>w'.cell? ⟨b,6,none⟩=some (str s)/\w'.cell? ⟨b,7,none⟩=some (.int .i64 at_)/\zB w w')
  (first
   | exact⟨rK,ur,(zR _).drew⟩
   | (go_split_ands;exact⟨((ej hb).1 _ _ (zf hlt (by assumption:Below _ _ _).size)).trans (by assumption),((ej hb).1 _ _ (zf hlt (by assumption:Below _ _ _).size)).trans (by assumption),(by assumption:zB w _).trans (hb.mono (by assumption:zB w _).size)⟩)
   | go_keep)
  (first
   | (go_at_call 102;refine(HP.out 1).mono ?_;rintro e w1 ⟨rfl,hb⟩))
 have hb4:zB w w1:=by
  rename_i hh;exact hh.2.2
 have jo:=HH.out.below hb4 hlt;have Ug:=HX.out.below hb4 HX.out.lt;have d0:=Ug.cell 0;have d7:=jo.cell 7;have d9:=jo.cell 9;have f0:=Ug.frozen 0;have f7:=jo.frozen 7;have f9:=jo.frozen 9;simp only[aB,zGA,zGB,zGC] at d0 d7 d9;have uJ:=zH jo;have HX1:=zH Ug;clear rK ur sY jo hb Ug;go_wp2_with fail;refine bodyPost_ret (results_none rfl _ _ _) rfl ⟨rfl,?_,?_,((((aa.az hb4 (λx=>x=b\/x=bx)).setCell (p:=⟨bx,0,none⟩) (.inl (.inr rfl)) _).setCell (p:=⟨b,9,none⟩) (.inl (.inl rfl)) _).setCell (p:=⟨b,7,none⟩) (.inl (.inl rfl)) _)⟩
 ·have h2:=(((uJ.out.far (p:=⟨bx,0,none⟩) hne (.int .u32 N)).a_ 9 (.bool false)).a_ 7 (.int .i64 ((at_:Int)+(size:Int))));have e2:(((aB c0 c1 c2 c3 c4 c5 s at_ true false).setIfInBounds 9 (.bool false)).setIfInBounds 7 (.int .i64 ((at_:Int)+(size:Int))))=aB c0 c1 c2 c3 c4 c5 s (at_+size) true false:=by
   rw[<-Int.natCast_add];rfl
  rw[e2] at h2;exact h2
 ·exact(((HX1.out.a_ 0 (.int .u32 N)).far (p:=⟨b,9,none⟩) hne' (.bool false)).far (p:=⟨b,7,none⟩) hne' _)
theorem Xn {w:World} {s:Sp.Bs} {at_:Nat} (hH:aj w b 271 (aB (.int .u8 n) c1 c2 c3 c4 c5 s at_ false false)) (hn:n<256) (hlen:s.length<=1000000):
 Calls prog 221 #[.pointer (some ⟨b,0,none⟩)] w λe w'=>e=.returned (.tuple #[])/\
  aj w' b 271 (aB (.int .u8 n) c1 c2 c3 c4 c5 (s++Sp.be 1 n) at_ false false)/\aa (only b) (only b) w w':=by
 have HC:=zH (uV hH (hH.cell 0) (by omega) (by omega) (size:=1) (n:=n) (by omega) (by omega) hlen);clear hH;go_enter func221,ntmps221;go_wp2_with fail;refine HC.out.mono ?_;rintro e w1 ⟨rfl,h1,h2⟩;go_wp2_with fail
 go_end0
 exact⟨rfl,h1,h2⟩
theorem Xo {w:World} {s:Sp.Bs} {at_:Nat} (hH:aj w b 271 (aB c0 c1 c2 c3 c4 c5 s at_ true false)) (hat:at_+1<=s.length) (hN:Sp.num ((s.drop at_).take 1)=N) (hlen:s.length<=1000000):
 Calls prog 221 #[.pointer (some ⟨b,0,none⟩)] w λe w'=>e=.returned (.tuple #[])/\
  aj w' b 271 (aB (.int .u8 N) c1 c2 c3 c4 c5 s (at_+1) true false)/\aa (only b) (only b) w w':=by
 have hn:N<256:=by
  rw[<-hN];exact zf (Sp.oH _) (zl (Nat.pow_le_pow_right (by omega) (show _<=1 by simp;omega)) (by decide))
 have HC:=zH (uW (o:=0) rfl hH (by omega) rfl (by omega) (by omega) hat hN hn hlen);clear hH hN hn;go_enter func221,ntmps221;go_wp2_with fail;refine HC.out.mono ?_;rintro e w1 ⟨rfl,h1,h2⟩;go_wp2_with fail
 go_end0
 exact⟨rfl,h1,h2⟩
theorem Tz {w:World} {s:Sp.Bs} {at_:Nat} (hH:aj w b 271 (aB c0 (.int .u8 n) c2 c3 c4 c5 s at_ false false)) (hn:n<256) (hlen:s.length<=1000000):
 Calls prog 222 #[.pointer (some ⟨b,0,none⟩)] w λe w'=>e=.returned (.tuple #[])/\
  aj w' b 271 (aB c0 (.int .u8 n) c2 c3 c4 c5 (s++Sp.be 1 n) at_ false false)/\aa (only b) (only b) w w':=by
 have HC:=zH (uV hH (hH.cell 1) (by omega) (by omega) (size:=1) (n:=n) (by omega) (by omega) hlen);clear hH;go_enter func222,ntmps222;go_wp2_with fail;refine HC.out.mono ?_;rintro e w1 ⟨rfl,h1,h2⟩;go_wp2_with fail
 go_end0
 exact⟨rfl,h1,h2⟩
theorem TC {w:World} {s:Sp.Bs} {at_:Nat} (hH:aj w b 271 (aB c0 c1 c2 c3 c4 c5 s at_ true false)) (hat:at_+1<=s.length) (hN:Sp.num ((s.drop at_).take 1)=N) (hlen:s.length<=1000000):
 Calls prog 222 #[.pointer (some ⟨b,0,none⟩)] w λe w'=>e=.returned (.tuple #[])/\
  aj w' b 271 (aB c0 (.int .u8 N) c2 c3 c4 c5 s (at_+1) true false)/\aa (only b) (only b) w w':=by
 have hn:N<256:=by
  rw[<-hN];exact zf (Sp.oH _) (zl (Nat.pow_le_pow_right (by omega) (show _<=1 by simp;omega)) (by decide))
 have HC:=zH (uW (o:=1) rfl hH (by omega) rfl (by omega) (by omega) hat hN hn hlen);clear hH hN hn;go_enter func222,ntmps222;go_wp2_with fail;refine HC.out.mono ?_;rintro e w1 ⟨rfl,h1,h2⟩;go_wp2_with fail
 go_end0
 exact⟨rfl,h1,h2⟩
theorem id_w {w:World} {s:Sp.Bs} {at_:Nat} (hH:aj w b 271 (aB c0 c1 (.int .u32 n) c3 c4 c5 s at_ false false)) (hn:n<4294967296) (hlen:s.length<=1000000):
 Calls prog 223 #[.pointer (some ⟨b,0,none⟩)] w λe w'=>e=.returned (.tuple #[])/\
  aj w' b 271 (aB c0 c1 (.int .u32 n) c3 c4 c5 (s++Sp.be 4 n) at_ false false)/\aa (only b) (only b) w w':=by
 have HC:=zH (nu hH (hH.cell 2) (by omega) (by omega) (size:=4) (n:=n) (by omega) (by omega) hlen);clear hH;go_enter func223,ntmps223;go_wp2_with fail;refine HC.out.mono ?_;rintro e w1 ⟨rfl,h1,h2⟩;go_wp2_with fail
 go_end0
 exact⟨rfl,h1,h2⟩
theorem id_r {w:World} {s:Sp.Bs} {at_:Nat} (hH:aj w b 271 (aB c0 c1 c2 c3 c4 c5 s at_ true false)) (hat:at_+4<=s.length) (hN:Sp.num ((s.drop at_).take 4)=N) (hlen:s.length<=1000000):
 Calls prog 223 #[.pointer (some ⟨b,0,none⟩)] w λe w'=>e=.returned (.tuple #[])/\
  aj w' b 271 (aB c0 c1 (.int .u32 N) c3 c4 c5 s (at_+4) true false)/\aa (only b) (only b) w w':=by
 have hn:N<4294967296:=by
  rw[<-hN];exact zf (Sp.oH _) (zl (Nat.pow_le_pow_right (by omega) (show _<=4 by simp;omega)) (by decide))
 have HC:=zH (sH (o:=2) rfl hH (by omega) rfl (by omega) (by omega) hat hN hn hlen);clear hH hN hn;go_enter func223,ntmps223;go_wp2_with fail;refine HC.out.mono ?_;rintro e w1 ⟨rfl,h1,h2⟩;go_wp2_with fail
 go_end0
 exact⟨rfl,h1,h2⟩
theorem lsn_w {w:World} {s:Sp.Bs} {at_:Nat} (hH:aj w b 271 (aB c0 c1 c2 (.int .u64 n) c4 c5 s at_ false false)) (hn:n<18446744073709551616) (hlen:s.length<=1000000):
 Calls prog 224 #[.pointer (some ⟨b,0,none⟩)] w λe w'=>e=.returned (.tuple #[])/\
  aj w' b 271 (aB c0 c1 c2 (.int .u64 n) c4 c5 (s++Sp.be 8 n) at_ false false)/\aa (only b) (only b) w w':=by
 have HC:=zH (CR hH (hH.cell 3) (by omega) (by omega) (size:=8) (n:=n) (by omega) (by omega) hlen);clear hH;go_enter func224,ntmps224;go_wp2_with fail;refine HC.out.mono ?_;rintro e w1 ⟨rfl,h1,h2⟩;go_wp2_with fail
 go_end0
 exact⟨rfl,h1,h2⟩
theorem lsn_r {w:World} {s:Sp.Bs} {at_:Nat} (hH:aj w b 271 (aB c0 c1 c2 c3 c4 c5 s at_ true false)) (hat:at_+8<=s.length) (hN:Sp.num ((s.drop at_).take 8)=N) (hlen:s.length<=1000000):
 Calls prog 224 #[.pointer (some ⟨b,0,none⟩)] w λe w'=>e=.returned (.tuple #[])/\
  aj w' b 271 (aB c0 c1 c2 (.int .u64 N) c4 c5 s (at_+8) true false)/\aa (only b) (only b) w w':=by
 have hn:N<18446744073709551616:=by
  rw[<-hN];exact zf (Sp.oH _) (zl (Nat.pow_le_pow_right (by omega) (show _<=8 by simp;omega)) (by decide))
 have HC:=zH (CS (o:=3) rfl hH (by omega) rfl (by omega) (by omega) hat hN hn hlen);clear hH hN hn;go_enter func224,ntmps224;go_wp2_with fail;refine HC.out.mono ?_;rintro e w1 ⟨rfl,h1,h2⟩;go_wp2_with fail
 go_end0
 exact⟨rfl,h1,h2⟩
theorem Xj {w:World} {s:Sp.Bs} {at_:Nat} (hH:aj w b 271 (aB c0 c1 c2 c3 (.int .u32 n) c5 s at_ false false)) (hn:n<4294967296) (hlen:s.length<=1000000):
 Calls prog 225 #[.pointer (some ⟨b,0,none⟩)] w λe w'=>e=.returned (.tuple #[])/\
  aj w' b 271 (aB c0 c1 c2 c3 (.int .u32 n) c5 (s++Sp.be 4 n) at_ false false)/\aa (only b) (only b) w w':=by
 have HC:=zH (nu hH (hH.cell 4) (by omega) (by omega) (size:=4) (n:=n) (by omega) (by omega) hlen);clear hH;go_enter func225,ntmps225;go_wp2_with fail;refine HC.out.mono ?_;rintro e w1 ⟨rfl,h1,h2⟩;go_wp2_with fail
 go_end0
 exact⟨rfl,h1,h2⟩
theorem Xk {w:World} {s:Sp.Bs} {at_:Nat} (hH:aj w b 271 (aB c0 c1 c2 c3 c4 c5 s at_ true false)) (hat:at_+4<=s.length) (hN:Sp.num ((s.drop at_).take 4)=N) (hlen:s.length<=1000000):
 Calls prog 225 #[.pointer (some ⟨b,0,none⟩)] w λe w'=>e=.returned (.tuple #[])/\
  aj w' b 271 (aB c0 c1 c2 c3 (.int .u32 N) c5 s (at_+4) true false)/\aa (only b) (only b) w w':=by
 have hn:N<4294967296:=by
  rw[<-hN];exact zf (Sp.oH _) (zl (Nat.pow_le_pow_right (by omega) (show _<=4 by simp;omega)) (by decide))
 have HC:=zH (sH (o:=4) rfl hH (by omega) rfl (by omega) (by omega) hat hN hn hlen);clear hH hN hn;go_enter func225,ntmps225;go_wp2_with fail;refine HC.out.mono ?_;rintro e w1 ⟨rfl,h1,h2⟩;go_wp2_with fail
 go_end0
 exact⟨rfl,h1,h2⟩
theorem Xh {w:World} {s:Sp.Bs} {at_:Nat} (hH:aj w b 271 (aB c0 c1 c2 c3 c4 c5 s at_ false false)) (hlen:s.length<=1000000):
 Calls prog 226 #[.pointer (some ⟨b,0,none⟩)] w λe w'=>e=.returned (.tuple #[])/\
  aj w' b 271 (aB c0 c1 c2 c3 c4 c5 (s++Sp.be 2 0) at_ false false)/\aa (only b) (only b) w w':=by
 have hne:b≠w.heap.size:=by have:=hH.lt;omega
 have HH:=zH hH;clear hH;go_enter func226,ntmps226;go_wp2_with fail;have hN:=aj.new w 61 #[.int .u32 0];refine(nu (HH.out.alloc _) (hN.cell 0) (by omega) (by omega) (size:=2) (n:=0) (by omega) (by omega) hlen).mono ?_;rintro e w1 ⟨rfl,h1,h2⟩;have hN1:=hN.turns h2 (λe=>hne e.symm);have d0:=hN1.cell 0;have d9:=h1.cell 9;have f9:=h1.frozen 9;simp only[aB,zGA,zGB,zGC] at d0 d9;have uJ:=zH h1;clear h1 hN hN1;go_wp2_with fail
 go_end0
 refine⟨rfl,?_,(((aa.refl (only b) w).alloc _).trans h2).setCell (p:=⟨b,9,none⟩) (.inl rfl) _⟩;exact uJ.out.a_ 9 (.bool false)
theorem Xi {w:World} {s:Sp.Bs} {at_:Nat} (hH:aj w b 271 (aB c0 c1 c2 c3 c4 c5 s at_ true false)) (hat:at_+2<=s.length) (hN:Sp.num ((s.drop at_).take 2)=0) (hlen:s.length<=1000000):
 Calls prog 226 #[.pointer (some ⟨b,0,none⟩)] w λe w'=>e=.returned (.tuple #[])/\
  aj w' b 271 (aB c0 c1 c2 c3 c4 c5 s (at_+2) true false)/\aa (only b) (only b) w w':=by
 have hlt:=hH.lt;have HH:=zH hH;clear hH;go_enter func226,ntmps226;go_wp2_with fail;have hNn:=aj.new w 61 #[.int .u32 0];refine(Xg (HH.out.alloc _) hNn (by omega) (by omega) (size:=2) hat hN (by omega) hlen).mono ?_;rintro e w1 ⟨rfl,h1,h3,h2⟩;have d0:=h3.cell 0;have d9:=h1.cell 9;have f9:=h1.frozen 9;simp only[aB,zGA,zGB,zGC] at d0 d9;have uJ:=zH h1;clear h1 hNn h3;go_wp2_with fail
 go_end0
 refine⟨rfl,uJ.out.a_ 9 (.bool false),?_⟩;refine aa.setCell (F:=only b) (w:=w) (p:=⟨b,9,none⟩) ?_ (.inl rfl) _;refine⟨h2.os,h2.tape,h2.output,zl (by simp) h2.size,λk hk hn=>(h2.block k (by simp;omega) (λhx=>?_)).trans (Below.heap_alloc w _ k hk),λk hk=>.inl hk⟩;rcases hx with hx | hx
 ·exact hn hx
 ·omega
def cW (p:Sp.Pg):List Sp.Bs:=[Sp.be 1 p.kind,Sp.be 1 p.level,Sp.be 4 p.id,Sp.be 8 p.aL,Sp.be 4 p.next,Sp.be 2 0]
theorem IU (p:Sp.Pg):p.head=(cW p).flatten:=by simp[Sp.Pg.head,cW]
abbrev eJ (p:Sp.Pg) (rows:Value) (s:Sp.Bs) (at_:Nat) (rd:Bool):Array Value:=aB (.int .u8 p.kind) (.int .u8 p.level) (.int .u32 p.id) (.int .u64 p.aL) (.int .u32 p.next) rows s at_ rd false
def eR (b:Nat):Array Value:=#[.func (.func 221) #[.pointer (some ⟨b,0,none⟩)] #[],.func (.func 222) #[.pointer (some ⟨b,0,none⟩)] #[],.func (.func 223) #[.pointer (some ⟨b,0,none⟩)] #[],
 .func (.func 224) #[.pointer (some ⟨b,0,none⟩)] #[],.func (.func 225) #[.pointer (some ⟨b,0,none⟩)] #[],.func (.func 226) #[.pointer (some ⟨b,0,none⟩)] #[]]
theorem all_w {w:World} {p:Sp.Pg} {rows:Value} (hp:p.wf) (hH:aj w b 271 (eJ p rows [] 0 false)):
 Calls prog 176 #[.pointer (some ⟨b,0,none⟩)] w λe w'=>e=.returned (.tuple #[])/\
  aj w' b 271 (eJ p rows p.head 0 false)/\aa (only b) (only b) w w':=by
 obtain⟨q1,q2,q3,q4,q5⟩:=hp;have hlt:=hH.lt;have HH:=zH hH;have HP:=zH (IU p);clear hH;go_enter func176,ntmps176;go_wp2_with fail;go_loopw [3,18] (λ_ i wr=>∃k:Nat,k<=6/\i=.int .i64 k/\aj wr b 271 (eJ p rows ((cW p).take k).flatten 0 false)/\aa (only b) (only b) (w.alloc (.cells (eR b) 1)) wr) (λ_ i _=>6-(intOf i).toNat)
 case atStart=>exact⟨0,by omega,rfl,HH.out.alloc _,aa.refl _ _⟩
 case round=>
  obtain⟨k,hk,rfl,hB,ht⟩:=hrel;have hF:=(aj.new w 1 (eR b)).turns ht (λe=>by have e:w.heap.size=b:=e;omega);have hlk:∀k,k<6->((cW p).take k).flatten.length<=1000000:=λk hk=>by
   have h1:((cW p).take k).flatten.length<=(cW p).flatten.length:=by
    conv=>rhs;rw[<-zS k (cW p),List.flatten_append,zo]
    omega
   have h2:(cW p).flatten.length=20:=by simp[cW]
   omega
  have HK:=zH hlk;clear hlk;rcases(by omega:k=0\/k=1\/k=2\/k=3\/k=4\/k=5\/k=6) with rfl | rfl | rfl | rfl | rfl | rfl | rfl
  ·have hc:=hF.cell 0;simp only[eR,zGA,zGC] at hc;have HB:=zH hB;clear hB hF;go_wp2_with fail;refine(Xn HB.out q1 (HK.out 0 (by omega))).mono ?_;rintro e w1 ⟨rfl,h1,h2⟩;have cA:=zH h1;clear h1;go_wp2_with fail;go_roundw
   case rel=>exact⟨1,by omega,rfl,by simpa[cW] using cA.out,ht.trans h2⟩
   case measure=>simp[intOf]
  ·have hc:=hF.cell 1;simp only[eR,zGA,zGB,zGC] at hc;have HB:=zH hB;clear hB hF;go_wp2_with fail;refine(Tz HB.out q2 (HK.out 1 (by omega))).mono ?_;rintro e w1 ⟨rfl,h1,h2⟩;have cA:=zH h1;clear h1;go_wp2_with fail;go_roundw
   case rel=>exact⟨2,by omega,rfl,by simpa[cW] using cA.out,ht.trans h2⟩
   case measure=>simp[intOf]
  ·have hc:=hF.cell 2;simp only[eR,zGA,zGB,zGC] at hc;have HB:=zH hB;clear hB hF;go_wp2_with fail;refine(id_w HB.out q3 (HK.out 2 (by omega))).mono ?_;rintro e w1 ⟨rfl,h1,h2⟩;have cA:=zH h1;clear h1;go_wp2_with fail;go_roundw
   case rel=>exact⟨3,by omega,rfl,by simpa[cW] using cA.out,ht.trans h2⟩
   case measure=>simp[intOf]
  ·have hc:=hF.cell 3;simp only[eR,zGA,zGB,zGC] at hc;have HB:=zH hB;clear hB hF;go_wp2_with fail;refine(lsn_w HB.out q4 (HK.out 3 (by omega))).mono ?_;rintro e w1 ⟨rfl,h1,h2⟩;have cA:=zH h1;clear h1;go_wp2_with fail;go_roundw
   case rel=>exact⟨4,by omega,rfl,by simpa[cW] using cA.out,ht.trans h2⟩
   case measure=>simp[intOf]
  ·have hc:=hF.cell 4;simp only[eR,zGA,zGB,zGC] at hc;have HB:=zH hB;clear hB hF;go_wp2_with fail;refine(Xj HB.out q5 (HK.out 4 (by omega))).mono ?_;rintro e w1 ⟨rfl,h1,h2⟩;have cA:=zH h1;clear h1;go_wp2_with fail;go_roundw
   case rel=>exact⟨5,by omega,rfl,by simpa[cW] using cA.out,ht.trans h2⟩
   case measure=>simp[intOf]
  ·have hc:=hF.cell 5;simp only[eR,zGA,zGB,zGC] at hc;have HB:=zH hB;clear hB hF;go_wp2_with fail;refine(Xh HB.out (HK.out 5 (by omega))).mono ?_;rintro e w1 ⟨rfl,h1,h2⟩;have cA:=zH h1;clear h1;go_wp2_with fail;go_roundw
   case rel=>exact⟨6,by omega,rfl,by simpa[cW] using cA.out,ht.trans h2⟩
   case measure=>simp[intOf]
  ·have HB:=zH hB;clear hB hF;go_wp2_with fail
   go_end0
   refine⟨rfl,?_,((aa.refl (only b) w).alloc _).trans ht⟩;rw[HP.out];exact HB.out
theorem MJ {p:Sp.Pg} (hp:p.wf) (t rest:Sp.Bs) (h:t=p.head++rest):
 Sp.num ((t.drop 0).take 1)=p.kind/\Sp.num ((t.drop 1).take 1)=p.level/\Sp.num ((t.drop 2).take 4)=p.id/\Sp.num ((t.drop 6).take 8)=p.aL/\Sp.num ((t.drop 14).take 4)=p.next/\Sp.num ((t.drop 18).take 2)=0:=by
 obtain⟨q1,q2,q3,q4,q5⟩:=hp;subst h;unfold Sp.Pg.head;refine⟨?_,?_,?_,?_,?_,?_⟩
 ·rw[show Sp.be 1 p.kind++Sp.be 1 p.level++Sp.be 4 p.id++Sp.be 8 p.aL++Sp.be 4 p.next++Sp.be 2 0++rest=[]++Sp.be 1 p.kind++(Sp.be 1 p.level++Sp.be 4 p.id++Sp.be 8 p.aL++Sp.be 4 p.next++Sp.be 2 0++rest) by simp only[zh,zaa],
   Sp.gu (by simp) (by simp),Sp.cV (by omega)]
 ·rw[show Sp.be 1 p.kind++Sp.be 1 p.level++Sp.be 4 p.id++Sp.be 8 p.aL++Sp.be 4 p.next++Sp.be 2 0++rest=Sp.be 1 p.kind++Sp.be 1 p.level++(Sp.be 4 p.id++Sp.be 8 p.aL++Sp.be 4 p.next++Sp.be 2 0++rest) by simp only[zh],
   Sp.gu (by simp) (by simp),Sp.cV (by omega)]
 ·rw[show Sp.be 1 p.kind++Sp.be 1 p.level++Sp.be 4 p.id++Sp.be 8 p.aL++Sp.be 4 p.next++Sp.be 2 0++rest=(Sp.be 1 p.kind++Sp.be 1 p.level)++Sp.be 4 p.id++(Sp.be 8 p.aL++Sp.be 4 p.next++Sp.be 2 0++rest) by simp only[zh],
   Sp.gu (by simp) (by simp),Sp.cV (by omega)]
 ·rw[show Sp.be 1 p.kind++Sp.be 1 p.level++Sp.be 4 p.id++Sp.be 8 p.aL++Sp.be 4 p.next++Sp.be 2 0++rest=(Sp.be 1 p.kind++Sp.be 1 p.level++Sp.be 4 p.id)++Sp.be 8 p.aL++(Sp.be 4 p.next++Sp.be 2 0++rest) by simp only[zh],
   Sp.gu (by simp) (by simp),Sp.cV (by omega)]
 ·rw[show Sp.be 1 p.kind++Sp.be 1 p.level++Sp.be 4 p.id++Sp.be 8 p.aL++Sp.be 4 p.next++Sp.be 2 0++rest=(Sp.be 1 p.kind++Sp.be 1 p.level++Sp.be 4 p.id++Sp.be 8 p.aL)++Sp.be 4 p.next++(Sp.be 2 0++rest) by simp only[zh],
   Sp.gu (by simp) (by simp),Sp.cV (by omega)]
 ·rw[show Sp.be 1 p.kind++Sp.be 1 p.level++Sp.be 4 p.id++Sp.be 8 p.aL++Sp.be 4 p.next++Sp.be 2 0++rest=(Sp.be 1 p.kind++Sp.be 1 p.level++Sp.be 4 p.id++Sp.be 8 p.aL++Sp.be 4 p.next)++Sp.be 2 0++rest by simp only[zh],
   Sp.gu (by simp) (by simp),Sp.cV (by omega)]
def CG (p:Sp.Pg) (rows:Value) (t:Sp.Bs):Nat->Array Value
 | 0=>aB (.int .u8 0) (.int .u8 0) (.int .u32 0) (.int .u64 0) (.int .u32 0) rows t 0 true false
 | 1=>aB (.int .u8 p.kind) (.int .u8 0) (.int .u32 0) (.int .u64 0) (.int .u32 0) rows t 1 true false
 | 2=>aB (.int .u8 p.kind) (.int .u8 p.level) (.int .u32 0) (.int .u64 0) (.int .u32 0) rows t 2 true false
 | 3=>aB (.int .u8 p.kind) (.int .u8 p.level) (.int .u32 p.id) (.int .u64 0) (.int .u32 0) rows t 6 true false
 | 4=>aB (.int .u8 p.kind) (.int .u8 p.level) (.int .u32 p.id) (.int .u64 p.aL) (.int .u32 0) rows t 14 true false
 | 5=>aB (.int .u8 p.kind) (.int .u8 p.level) (.int .u32 p.id) (.int .u64 p.aL) (.int .u32 p.next) rows t 18 true false
 | _=>eJ p rows t 20 true
theorem all_r {w:World} {p:Sp.Pg} {rows:Value} {t rest:Sp.Bs} (hp:p.wf) (hh:t=p.head++rest) (hlen:t.length<=1000000) (hH:aj w b 271 (CG p rows t 0)):
 Calls prog 176 #[.pointer (some ⟨b,0,none⟩)] w λe w'=>e=.returned (.tuple #[])/\
  aj w' b 271 (eJ p rows t 20 true)/\aa (only b) (only b) w w':=by
 have hl20:20<=t.length:=by rw[hh,zo,Sp.Pg.lM];omega
 obtain⟨n1,n2,n3,n4,n5,n6⟩:=MJ hp t rest hh;have hlt:=hH.lt;have HH:=zH hH;have N1:=zH n1;have N2:=zH n2;have N3:=zH n3;have N4:=zH n4;have N5:=zH n5;have N6:=zH n6;clear hH hh n1 n2 n3 n4 n5 n6;go_enter func176,ntmps176;go_wp2_with fail;go_loopw [3,18] (λ_ i wr=>∃k:Nat,k<=6/\i=.int .i64 k/\aj wr b 271 (CG p rows t k)/\aa (only b) (only b) (w.alloc (.cells (eR b) 1)) wr) (λ_ i _=>6-(intOf i).toNat)
 case atStart=>exact⟨0,by omega,rfl,HH.out.alloc _,aa.refl _ _⟩
 case round=>
  obtain⟨k,hk,rfl,hB,ht⟩:=hrel;have hF:=(aj.new w 1 (eR b)).turns ht (λe=>by have e:w.heap.size=b:=e;omega);rcases(by omega:k=0\/k=1\/k=2\/k=3\/k=4\/k=5\/k=6) with rfl | rfl | rfl | rfl | rfl | rfl | rfl
  ·have hc:=hF.cell 0;simp only[eR,zGA,zGC] at hc;have HB:=zH hB;clear hB hF;go_wp2_with fail;refine(Xo HB.out (by omega) N1.out hlen).mono ?_;rintro e w1 ⟨rfl,h1,h2⟩;have cA:=zH h1;clear h1;go_wp2_with fail;go_roundw
   case rel=>exact⟨1,by omega,rfl,cA.out,ht.trans h2⟩
   case measure=>simp[intOf]
  ·have hc:=hF.cell 1;simp only[eR,zGA,zGB,zGC] at hc;have HB:=zH hB;clear hB hF;go_wp2_with fail;refine(TC HB.out (by omega) N2.out hlen).mono ?_;rintro e w1 ⟨rfl,h1,h2⟩;have cA:=zH h1;clear h1;go_wp2_with fail;go_roundw
   case rel=>exact⟨2,by omega,rfl,cA.out,ht.trans h2⟩
   case measure=>simp[intOf]
  ·have hc:=hF.cell 2;simp only[eR,zGA,zGB,zGC] at hc;have HB:=zH hB;clear hB hF;go_wp2_with fail;refine(id_r HB.out (by omega) N3.out hlen).mono ?_;rintro e w1 ⟨rfl,h1,h2⟩;have cA:=zH h1;clear h1;go_wp2_with fail;go_roundw
   case rel=>exact⟨3,by omega,rfl,cA.out,ht.trans h2⟩
   case measure=>simp[intOf]
  ·have hc:=hF.cell 3;simp only[eR,zGA,zGB,zGC] at hc;have HB:=zH hB;clear hB hF;go_wp2_with fail;refine(lsn_r HB.out (by omega) N4.out hlen).mono ?_;rintro e w1 ⟨rfl,h1,h2⟩;have cA:=zH h1;clear h1;go_wp2_with fail;go_roundw
   case rel=>exact⟨4,by omega,rfl,cA.out,ht.trans h2⟩
   case measure=>simp[intOf]
  ·have hc:=hF.cell 4;simp only[eR,zGA,zGB,zGC] at hc;have HB:=zH hB;clear hB hF;go_wp2_with fail;refine(Xk HB.out (by omega) N5.out hlen).mono ?_;rintro e w1 ⟨rfl,h1,h2⟩;have cA:=zH h1;clear h1;go_wp2_with fail;go_roundw
   case rel=>exact⟨5,by omega,rfl,cA.out,ht.trans h2⟩
   case measure=>simp[intOf]
  ·have hc:=hF.cell 5;simp only[eR,zGA,zGB,zGC] at hc;have HB:=zH hB;clear hB hF;go_wp2_with fail;refine(Xi HB.out (by omega) N6.out hlen).mono ?_;rintro e w1 ⟨rfl,h1,h2⟩;have cA:=zH h1;clear h1;go_wp2_with fail;go_roundw
   case rel=>exact⟨6,by omega,rfl,cA.out,ht.trans h2⟩
   case measure=>simp[intOf]
  ·have HB:=zH hB;clear hB hF;go_wp2_with fail
   go_end0
   exact⟨rfl,HB.out,((aa.refl (only b) w).alloc _).trans ht⟩
def Ak (rows:List Sp.Bs):List Value:=rows.map λr=>str r
@[simp] theorem WU (rows:List Sp.Bs):(Ak rows).length=rows.length:=by simp[Ak]
abbrev aA (G:af) (w:World) (A:Option Addr) (rows:List Sp.Bs):Prop:=Reads G w 1 A rows.length (Ak rows)
theorem aA.row {G:af} {w:World} {rows:List Sp.Bs} (h:aA G w A rows) (hk:k<rows.length):∃b o,A=some ⟨b,o,none⟩/\G b/\b<w.heap.size/\w.cell? ⟨b,o+k,none⟩=some (str rows[k]):=by
 obtain⟨b,o,u,hA,hG,hlt,hu,hc⟩:=h.at_ hk;simp[Ak,hk] at hu;subst hu;exact⟨b,o,hA,hG,hlt,hc⟩
abbrev iR (p:Sp.Pg) (A:Option Addr) (c:Nat):Value:=.agg #[.int .u8 p.kind,.int .u8 p.level,.int .u32 p.id,.int .u64 p.aL,.int .u32 p.next,.slice A p.rows.length c]
def bE (p:Sp.Pg):Bool:=decide (p.kind<=5)&&decide (1<=p.id)&&decide (p.id<=1024)&&decide (p.next<=1024)&&decide (4*p.rows.length+Sp.total p.rows<=484)
theorem mF (p:Sp.Pg):bE p=true↔p.may:=by simp[bE,Sp.Pg.may,and_assoc]
theorem xK {w:World} {G:af} {p:Sp.Pg} (hR:aA G w A p.rows) (hn:p.rows.length<=1000000000) (ht:Sp.total p.rows<=1000000000):
 Calls prog 144 #[iR p A c] w λe w'=>e=.returned (.bool (bE p))/\zB w w':=by
 have key:(decide ((p.kind:Int)<=5)=false/\bE p=false)\/(decide ((p.kind:Int)<=5)=true/\decide (1<=(p.id:Int))=false/\bE p=false)\/
  (decide ((p.kind:Int)<=5)=true/\decide (1<=(p.id:Int))=true/\decide ((p.id:Int)<=1024)=false/\bE p=false)\/
  (decide ((p.kind:Int)<=5)=true/\decide (1<=(p.id:Int))=true/\decide ((p.id:Int)<=1024)=true/\decide ((p.next:Int)<=1024)=false/\bE p=false)\/
  (decide ((p.kind:Int)<=5)=true/\decide (1<=(p.id:Int))=true/\decide ((p.id:Int)<=1024)=true/\decide ((p.next:Int)<=1024)=true/\decide ((Sp.total p.rows:Int)<=(484:Int)-4*p.rows.length)=false/\bE p=false)\/
  (decide ((p.kind:Int)<=5)=true/\decide (1<=(p.id:Int))=true/\decide ((p.id:Int)<=1024)=true/\decide ((p.next:Int)<=1024)=true/\decide ((Sp.total p.rows:Int)<=(484:Int)-4*p.rows.length)=true/\bE p=true):=by
  by_cases a1:p.kind<=5
  ·by_cases a2:1<=p.id
   ·by_cases a3:p.id<=1024
    ·by_cases a4:p.next<=1024
     ·by_cases a5:4*p.rows.length+Sp.total p.rows<=484
      ·refine .inr (.inr (.inr (.inr (.inr ⟨?_,?_,?_,?_,?_,by simp[bE,a1,a2,a3,a4,a5]⟩))))<;>rw[zx]<;>omega
      ·refine .inr (.inr (.inr (.inr (.inl ⟨?_,?_,?_,?_,?_,by simp[bE,a5]⟩))))<;>first | (rw[zx];omega) | (rw[ze];omega)
     ·refine .inr (.inr (.inr (.inl ⟨?_,?_,?_,?_,by simp[bE,a4]⟩)))<;>first | (rw[zx];omega) | (rw[ze];omega)
    ·refine .inr (.inr (.inl ⟨?_,?_,?_,by simp[bE,a3]⟩))<;>first | (rw[zx];omega) | (rw[ze];omega)
   ·refine .inr (.inl ⟨?_,?_,by simp[bE,a2]⟩)<;>first | (rw[zx];omega) | (rw[ze];omega)
  ·refine .inl ⟨?_,by simp[bE,a1]⟩;rw[ze];omega
 obtain⟨kind,level,id,aL,next,rows⟩:=p;dsimp only at*;have HR:=zH hR;have HM:Hid (∃mb,bE ⟨kind,level,id,aL,next,rows⟩=mb):=⟨_,rfl⟩;generalize bE ⟨kind,level,id,aL,next,rows⟩=mb at*;clear hR HM;rcases key with⟨d1,hmb⟩ | ⟨d1,d2,hmb⟩ | ⟨d1,d2,d3,hmb⟩ | ⟨d1,d2,d3,d4,hmb⟩ | ⟨d1,d2,d3,d4,d5,hmb⟩ | ⟨d1,d2,d3,d4,d5,hmb⟩
 all_goals
  subst hmb;go_enter func144,ntmps144;go_wp2_with fail
  go_loop [3,5,9] (λv _ i=>∃k:Nat,k<=rows.length/\i=.int .i64 k/\v=.int .i64 ((484:Int)-4*k-Sp.total (rows.take k))) (λ_ _ i=>rows.length-(intOf i).toNat)
  case atStart=>exact⟨0,by omega,rfl,by simp⟩
  case round=>
   obtain⟨k,hk,rfl,rfl⟩:=hrel;by_cases hlt:k<rows.length
   ·obtain⟨b,o,rfl,_,hb,hc⟩:=HR.out.row hlt;have htk:=zH (Sp.bL rows k hlt);have hle:=Sp.b_ rows k;have IG:=Sp.b_ rows (k+1);rw[htk.out] at IG;have hc2:=(World.cell?_alloc_lt w (.cells #[.int .u8 kind,.int .u8 level,.int .u32 id,.int .u64 aL,.int .u32 next,.slice (some ⟨b,o,none⟩) rows.length c] 64) ⟨b,o+k,none⟩ hb).trans hc;generalize Sp.total (rows.take k)=T at*;generalize rows[k]=r at*;clear hc;go_wp2_with fail
    go_round
    case rel=>exact⟨k+1,by omega,by go_num,by rw[htk.out];go_num⟩
    case measure=>simp[intOf];omega
   ·obtain rfl:k=rows.length:=by omega
    rw[zL];go_wp2_with fail;go_ret;exact⟨rfl,(Below.refl _ w).alloc (za _) _⟩
namespace Sp
def poly:Nat:=0x82F63B78
def wH (c:Nat):Nat:=(c/2) ^^^ (poly*(c%2))
def iK:Nat->Nat->Nat
 | 0,c=>c
 | k+1,c=>wH (iK k c)
def oW (i:Nat):Nat:=iK 8 i
def p_ (c x:Nat):Nat:=oW ((c%256) ^^^ x) ^^^ (c/256)
def kN (c:Nat) (s:Bs):Nat:=s.foldl (λc x=>p_ c x.toNat) c
def crc (s:Bs):Nat:=4294967295-kN 4294967295 s
theorem Jl (h:c<4294967296):wH c<4294967296:=by
 have h1:c/2<2 ^ 32:=by omega
 have h2:poly*(c%2)<2 ^ 32:=by
  unfold poly;have:c%2<2:=Nat.mod_lt _ (by omega);omega
 exact Nat.xor_lt_two_pow h1 h2
theorem oZ (h:c<4294967296):∀k,iK k c<4294967296
 | 0=>h
 | k+1=>Jl (oZ h k)
theorem Cc (h:i<256):oW i<4294967296:=oZ (by omega) 8
theorem Eb (hx:x<256):(c%256) ^^^ x<256:=Nat.xor_lt_two_pow (n:=8) (by omega) hx
theorem Jm (hc:c<4294967296) (hx:x<256):p_ c x<4294967296:=
 Nat.xor_lt_two_pow (n:=32) (Cc (Eb hx)) (by omega)
theorem FW (c:Nat) (s:Bs) (x:UInt8):kN c (s++[x])=p_ (kN c s) x.toNat:=by simp[kN]
theorem Ce (hc:c<4294967296) (s:Bs):kN c s<4294967296:=by
 induction s generalizing c with
 | nil=>exact hc
 | cons x s ih=>exact ih (Jm hc x.toNat_lt)
theorem Rv (s:Bs):crc s<4294967296:=by unfold crc;omega
def dK (s:Bs):Bs:=[UInt8.ofNat (crc s),UInt8.ofNat (crc s/256),UInt8.ofNat (crc s/65536),UInt8.ofNat (crc s/16777216)]
@[simp] theorem NC (s:Bs):(dK s).length=4:=rfl
def cI (s:Bs):Bs:=s++dK s
@[simp] theorem lW (s:Bs):(cI s).length=s.length+4:=by simp[cI]
theorem wN:cI (zeros 508)≠zeros 512:=by
 intro h;have h1:(cI (zeros 508)).drop 508=(zeros 512).drop 508:=by rw[h]
 have h2:(cI (zeros 508)).drop 508=dK (zeros 508):=zav (zbc ..);rw[h2] at h1;revert h1;decide+kernel
end Sp
def aZ (k:Nat):Array Value:=((List.range 256).map λj=>Value.int .u32 (if j<k then((Sp.oW j:Nat):Int) else 0)).toArray
theorem dX (k:Nat):(aZ k).size=256:=by simp[aZ]
theorem iD (k j:Nat) (h:j<256):(aZ k)[j]? =some (Value.int .u32 (if j<k then((Sp.oW j:Nat):Int) else 0)):=by
 simp only[aZ,zGA,zN,zbm h,zas]
theorem Ah (k:Nat) (_hk:k<256):(aZ k).setIfInBounds k (.int .u32 ((Sp.oW k:Nat):Int))=aZ (k+1):=by
 apply Array.ext_getElem?;intro j;rw[Array.getElem?_setIfInBounds];rcases za4 j 256 with hj | hj
 ·rw[iD _ _ hj,iD _ _ hj,dX];by_cases e:k=j
  ·subst e;simp[hj]
  ·rw[zD e]
   congr 2
   by_cases h:j<k
   ·rw[zK h,zK (by omega)]
   ·rw[zD h,zD (by omega)]
 ·rw[zah (by rw[dX];exact hj),zah (by rw[dX];exact hj),dX]
  split<;>simp;omega
theorem Ag:aZ 0=Array.replicate 256 (.int .u32 0):=by
 apply Array.ext_getElem?;intro j;rcases za4 j 256 with hj | hj
 ·rw[iD _ _ hj];simp[hj]
 ·rw[zah (by rw[dX];exact hj)];simp;omega
theorem Er:(prog.info? 382).map (λi=>(i.zero,i.size))=some (some (.agg (aZ 0)),256):=by
 rw[Ag];kernel_rfl
theorem Dy (c:Nat) (h:c<4294967296):bits .xor .u32 ((c:Int)/2) (2197175160*bits .and .u32 (c:Int) 1%4294967296)=((Sp.wH c:Nat):Int):=by
 have e1:bits .and .u32 (c:Int) 1=((c%2:Nat):Int):=by
  rw[show(1:Int)=((1:Nat):Int) from rfl,u32_and_nat _ _ h (by omega),nat_mask1]
 have hm:c%2<2:=Nat.mod_lt _ (by omega);have e2:(2197175160*((c%2:Nat):Int))%4294967296=((Sp.poly*(c%2):Nat):Int):=by
  unfold Sp.poly;omega
 rw[e1,e2,show(c:Int)/2=((c/2:Nat):Int) by omega,u32_xor_nat _ _ (by omega) (by unfold Sp.poly;omega)];rfl
theorem NS (c:Nat) (h:c<4294967296):bits .xor .u32 IntKind.u32.max (c:Int)=((4294967295-c:Nat):Int):=by
 rw[show IntKind.u32.max=((4294967295:Nat):Int) from rfl,u32_xor_nat _ _ (by omega) h]
 congr 1
 apply Nat.eq_of_testBit_eq;intro i;rw[Nat.testBit_xor,show 4294967295-c=2 ^ 32-(c+1) by omega,Nat.testBit_two_pow_sub_succ (by omega),show(4294967295:Nat)=2 ^ 32-1 from rfl,Nat.testBit_two_pow_sub_one];by_cases hi:i<32
 ·simp[hi]
 ·have:c.testBit i=false:=Nat.testBit_lt_two_pow (zf h (show 2 ^ 32<=2 ^ i from Nat.pow_le_pow_right (by omega) (by omega)));simp[hi,this]
theorem Lv (w:World):
 Calls prog 314 #[] w λe w'=>e=.returned (.agg (aZ 256))/\zB w w':=by
 obtain⟨hz,hsz⟩:=zero_of_info Er;go_enter func314,ntmps314;go_wp2_with fail;go_loopw [1,2,3] (λ_ _ i wr=>∃k:Nat,k<=256/\i=.int .i64 k/\aj wr w.heap.size 382 (aZ k)/\zB w wr) (λ_ _ i _=>256-(intOf i).toNat)
 case atStart=>exact⟨0,by omega,rfl,aj.new w _ _,(zR _).alloc (za _) _⟩
 case round=>
  obtain⟨k,hk,rfl,hblk,hb⟩:=hrel;by_cases hlt:k<256
  ·have hcell:=(hblk.cell k).trans (iD k k hlt);have hfz:=hblk.frozen k;go_wp2_with fail
   go_loop [2,8] (λc i=>∃j:Nat,j<=8/\i=.int .i64 j/\c=.int .u32 (Sp.iK j k)) (λ_ i=>8-(intOf i).toNat)
   case atStart=>exact⟨0,by omega,rfl,rfl⟩
   case round=>
    obtain⟨j,hj,rfl,rfl⟩:=hrel;have hc:=Sp.oZ (c:=k) (by omega) j;by_cases hlt2:j<8
    ·have hst:=zH (Dy _ hc);have tO:Hid (Sp.iK (j+1) k=Sp.wH (Sp.iK j k)):=rfl;generalize Sp.iK j k=c at*;clear hcell hfz;go_wp2_with fail
     go_round
     case rel=>exact⟨j+1,by omega,by go_num,by rw[tO.out,hst.out]⟩
     case measure=>simp[intOf];omega
    ·obtain rfl:j=8:=by omega
     have ht:Hid (Sp.iK 8 k=Sp.oW k):=rfl;generalize Sp.iK 8 k=c at*;go_wp2_with fail;go_roundw
     case rel=>
      refine⟨k+1,by omega,by go_num,?_,hb.setCell (za _) _⟩;rw[ht.out];rw[<-Ah k hlt];exact hblk.a_ _ _
     case measure=>simp[intOf];omega
  ·obtain rfl:k=256:=by omega
   have Mx:(prog.info? 382).map (·.size)=some (aZ 256).size:=by rw[hsz,dX]
   have h1:(aZ 256).all (·.oneCell')=true:=by
    rw[Array.all_eq_true_iff_forall_mem];intro v hv;simp only[aZ,List.mem_toArray,zn] at hv;obtain⟨_,_,rfl⟩:=hv;rfl
   have HH:=zH (And.intro Mx h1);clear Mx h1 hsz hz;go_wp2_with (first
    | (refine wpList_load_row rfl 382 _ rfl w.heap.size rfl 382 (aZ 256) (0,0) _ hblk underlying382 rfl HH.out.1 ?_)
    | (refine wpList_store_row rfl 382 _ _ rfl w.heap.size (aZ 256) rfl rfl 382 (aZ 256) hblk HH.out.1 rfl HH.out.2 ?_))
   refine bodyPost_ret (v:=.agg (aZ 256)) (results_cell_row rfl _ _ w.heap.size 382 _ (0,0) _ rfl (hblk.setRow _) underlying382 rfl HH.out.1) rfl ⟨rfl,below_setRow hb (za _) _⟩
theorem Oj (l:Sp.Bs) (w:World) (hl:l.length<=1000000000):
 Calls prog 280 #[.int .u32 0,str l] w λe w'=>e=.returned (.int .u32 (Sp.crc l))/\zB w w':=by
 obtain⟨hz,hsz⟩:=zero_of_info Er;have Mx:(prog.info? 382).map (·.size)=some (aZ 256).size:=by rw[hsz,dX]
 have h1:(aZ 256).all (·.oneCell')=true:=by
  rw[Array.all_eq_true_iff_forall_mem];intro v hv;simp only[aZ,List.mem_toArray,zn] at hv;obtain⟨_,_,rfl⟩:=hv;rfl
 have HH:=zH (And.intro Mx h1);clear Mx h1 hsz;have hsize:∀k,(aZ k).size=256:=dX;have HS:=zH hsize;clear hsize;have hcv:=yN (P:=prog) 9 129 5 l underlying9 underlying129 underlying5;go_enter func280,ntmps280;go_wp2_with fail;refine(Lv w).mono ?_;rintro e w1 ⟨rfl,hb1⟩;go_wp2_with (refine wpList_store_row rfl 382 _ _ rfl w1.heap.size (aZ 256) rfl rfl 382 (aZ 0) (aj.new w1 _ _) HH.out.1 (by rw[HS.out,HS.out]) HH.out.2 ?_);have hT:aj ((w1.alloc (Obj.cells (aZ 0) 382)).setRow w1.heap.size (aZ 256)) w1.heap.size 382 (aZ 256):=(aj.new w1 _ _).setRow _;have hb2:zB w ((w1.alloc (Obj.cells (aZ 0) 382)).setRow w1.heap.size (aZ 256)):=below_setRow (hb1.alloc hb1.size _) hb1.size _;have e1:((w1.alloc (Obj.cells (aZ 0) 382)).setRow w1.heap.size (aZ 256)).heap.size=w1.heap.size+1:=by simp
 obtain⟨hb3,hsz3,hnew,_⟩:=j6 ((w1.alloc (Obj.cells (aZ 0) 382)).setRow w1.heap.size (aZ 256)) 5 l;rw[e1] at hsz3 hnew;have YM:=hT.below hb3 (by rw[e1];omega);have hb4:zB w (dU ((w1.alloc (Obj.cells (aZ 0) 382)).setRow w1.heap.size (aZ 256)) 5 l):=hb2.trans (hb3.mono hb2.size);clear hb3 hb2 hT hz hcv e1;generalize dU ((w1.alloc (Obj.cells (aZ 0) 382)).setRow w1.heap.size (aZ 256)) 5 l=w3 at*;generalize w1.heap.size=B at*;clear hb1 hsz3
 go_loop [0,7,14] (λc _ i=>∃k:Nat,k<=l.length/\i=.int .i64 k/\c=.int .u32 (Sp.kN 4294967295 (l.take k))) (λ_ _ i=>l.length-(intOf i).toNat)
 case atStart=>exact⟨0,by omega,rfl,rfl⟩
 case round=>
  obtain⟨k,hk,rfl,rfl⟩:=hrel;have hlt32:=Sp.Ce (c:=4294967295) (by omega) (l.take k);by_cases hlt:k<l.length
  ·have hcell:=hnew k hlt;have tO:Sp.kN 4294967295 (l.take (k+1))=Sp.p_ (Sp.kN 4294967295 (l.take k)) l[k].toNat:=by
    rw[zg hlt,Sp.FW]
   have HX:=zH tO;clear tO hnew;generalize Sp.kN 4294967295 (l.take k)=c at*;have hx:=l[k].toNat_lt;obtain⟨i,hi,he⟩:∃i,i<256/\(c%256) ^^^ l[k].toNat=i:=⟨_,Sp.Eb hx,rfl⟩;have hxor:bits .xor .u8 ((c:Int)%256) (l[k].toNat:Int)=(i:Int):=by
    rw[show(c:Int)%256=((c%256:Nat):Int) by omega,u8_xor_nat _ _ (by omega) hx,he]
   have hst:bits .xor .u32 ((Sp.oW i:Nat):Int) ((c:Int)/256)=((Sp.p_ c l[k].toNat:Nat):Int):=by
    rw[show(c:Int)/256=((c/256:Nat):Int) by omega,u32_xor_nat _ _ (Sp.Cc hi) (by omega),Sp.p_,he]
   have HE:=zH he;have HT:=zH hst;clear he hst;have hct:=(YM.cell i).trans (iD 256 i hi);rw[zK hi] at hct;generalize Sp.oW i=tv at*;go_wp2_with fail
   go_round
   case rel=>exact⟨k+1,by omega,by go_num,by rw[HX.out,HT.out]⟩
   case measure=>simp[intOf];omega
  ·obtain rfl:k=l.length:=by omega
   have hN:=zH (NS _ hlt32);have he:Hid (Sp.kN 4294967295 (l.take l.length)=4294967295-Sp.crc l):=by
    have:=Sp.Ce (c:=4294967295) (by omega) l;show _=_;rw[zL,Sp.crc];omega
   have hlt3:=Sp.Rv l;generalize Sp.kN 4294967295 (l.take l.length)=c at*;clear hnew;go_wp2_with fail;go_ret;refine⟨?_,hb4⟩;show Ending.returned (.int .u32 (bits .xor .u32 IntKind.u32.max (c:Int)))=_;rw[hN.out,he.out]
   congr 3
   omega
theorem WR (l:Sp.Bs) (w:World) (hl:l.length<=1000000000):
 Calls prog 235 #[str l] w λe w'=>e=.returned (.int .u32 (Sp.crc l))/\zB w w':=by
 go_enter func235,ntmps235;go_wp2_with fail;refine(Oj l w hl).mono ?_;rintro e w1 ⟨rfl,hb1⟩;go_wp2_with fail;go_ret;exact⟨rfl,hb1⟩
theorem mr (l:Sp.Bs) (w:World) (hl:l.length<=1000000000):
 Calls prog 179 #[str l] w λe w'=>e=.returned (str (Sp.cI l))/\zB w w':=by
 go_enter func179,ntmps179;go_wp2_with fail;refine(WR l w hl).mono ?_;rintro e w1 ⟨rfl,hb1⟩;have hc:=Sp.Rv l;have hs:Hid (Sp.cI l=l++[UInt8.ofNat (Sp.crc l),UInt8.ofNat (Sp.crc l/256),UInt8.ofNat (Sp.crc l/65536),UInt8.ofNat (Sp.crc l/16777216)]):=rfl;generalize Sp.crc l=c at*;have hcb:(convert 129 9 (.slice (some ⟨w1.heap.size,0,none⟩) 4 4)).run prog (w1.alloc (.cells #[.int .u8 ((c:Int)%256),.int .u8 ((c:Int)/256%256),.int .u8 ((c:Int)/65536%256),.int .u8 ((c:Int)/16777216)] 5))=
  .ok (str [UInt8.ofNat c,UInt8.ofNat (c/256),UInt8.ofNat (c/65536),UInt8.ofNat (c/16777216)]) (w1.alloc (.cells #[.int .u8 ((c:Int)%256),.int .u8 ((c:Int)/256%256),.int .u8 ((c:Int)/65536%256),.int .u8 ((c:Int)/16777216)] 5)):=by
  refine bt _ 129 9 5 w1.heap.size 0 4 4 _ underlying129 underlying5 underlying9 rfl (λj hj=>?_);rw[(aj.new w1 _ _).cell]
  match j,hj with
  | 0,_=>simp
  | 1,_=>simp
  | 2,_=>simp
  | 3,_=>simp;omega
 go_wp2_with fail;go_ret;refine⟨?_,hb1.alloc hb1.size _⟩;show Ending.returned (.string (_++_))=_;rw[aP,hs.out]
theorem Eu (l:Sp.Bs) (w:World) (hl:l.length<=1000000000):
 Calls prog 197 #[str (Sp.cI l)] w λe w'=>e=.returned (.tuple #[str l,.bool true])/\zB w w':=by
 have hlen:(Sp.cI l).length=l.length+4:=Sp.lW l;have htk:Hid ((Sp.cI l).take l.length=l):=by show _=_;rw[Sp.cI,List.take_left]
 have HS:Hid (∀w,Calls prog 179 #[str l] w λe w'=>e=.returned (str (Sp.cI l))/\zB w w'):=λw=>mr l w hl;generalize hs:Sp.cI l=s at*;have HX:=zH hs;clear hs;have hneq:((⟨s.toArray⟩:ByteArray).toList==(⟨s.toArray⟩:ByteArray).toList)=true:=by simp
 go_enter func197,ntmps197;go_wp2_with fail;have hex:(⟨s.toArray⟩:ByteArray).extract 0 l.length=⟨l.toArray⟩:=by rw[dw,Nat.sub_zero,List.drop_zero,htk.out]
 rw[hex];refine(HS.out w).mono ?_;rintro e w1 ⟨rfl,hb1⟩;go_wp2_with fail
 go_ret2
 exact⟨rfl,hb1⟩
def bW (p:Sp.Pg):Sp.Bs:=Sp.cI p.body
theorem iF {p:Sp.Pg} (h:p.may):(bW p).length=512:=by rw[bW,Sp.lW,Sp.Pg.iv h]
theorem oG {w:World} {G:af} {p:Sp.Pg} (hR:aA G w A p.rows) (hw:p.wf) (hm:p.may):
 Calls prog 108 #[iR p A c] w λe w'=>e=.returned (.tuple #[str (bW p),.int .i64 0])/\zB w w':=by
 have hfit:=hm.2.2.2.2;have hmay:=λW (h:aA G W A p.rows)=>xK (w:=W) (c:=c) h (by omega) (by omega);rw[(mF p).2 hm] at hmay;have HMY:=zH hmay;have HH0:Hid (∀(W:World) b rows,aj W b 271 (eJ p rows [] 0 false)->Calls prog 176 #[.pointer (some ⟨b,0,none⟩)] W λe w'=>e=.returned (.tuple #[])/\
  aj w' b 271 (eJ p rows p.head 0 false)/\aa (only b) (only b) W w'):=λW b rows h=>all_w hw h
 have HS:=zH (λW=>mr p.body W (by rw[Sp.Pg.iv hm];omega));have hpb:Hid (p.body=p.head++Sp.bO 488 p.rows):=rfl;have HE:Hid (bW p=Sp.cI p.body):=rfl;have HR:=zH hR;clear hR hm hmay hw;go_enter func108,ntmps108;go_wp2_with fail;refine(HMY.out _ (HR.out.below ((Below.refl _ w).alloc (za _) _))).mono ?_;rintro e w1 ⟨rfl,hb1⟩;have fN:=(aj.new w 64 #[.int .u8 p.kind,.int .u8 p.level,.int .u32 p.id,.int .u64 p.aL,.int .u32 p.next,.slice A p.rows.length c]).below hb1 (by simp);have cH:zB w w1:=((Below.refl _ w).alloc (za _) _).trans (hb1.mono (by simp));have l6:w.heap.size<w1.heap.size:=by have:=hb1.size;simp at this;omega
 have x0:=fN.cell 0;have x1:=fN.cell 1;have x2:=fN.cell 2;have x3:=fN.cell 3;have x4:=fN.cell 4;have x5:=fN.cell 5;simp only[zGA,zGB,zGC] at x0 x1 x2 x3 x4 x5;have HX:=zH fN;clear fN;go_wp2_with fail;have hH:=aj.new w1 271 (eJ p (.slice A p.rows.length c) [] 0 false);refine(HH0.out _ _ _ hH).mono ?_;rintro e w2 ⟨rfl,SH,dx⟩;have hbx2:=(HX.out.alloc _).turns dx (λe=>by have e:w.heap.size=w1.heap.size:=e;omega);have cG:zB w w2:=(cH.alloc cH.size _).trans (dx.below (by simp;omega) (λb hb=>by rw[hb];omega));have hs2:w1.heap.size<w2.heap.size:=by have:=dx.size;simp at this;omega
 clear x0 x1 x2 x3 x4 x5 hH hb1;go_wp2_with fail;refine(Ot 488 w2 (by omega) (by omega)).mono ?_;rintro e w3 ⟨g,h,rfl,KD,hg,hh,hb3⟩;have hbx3:=hbx2.below hb3 (by omega);have YV:=SH.below hb3 (by omega);have dN:zB w w3:=cG.trans (hb3.mono cG.size);have x5:=hbx3.cell 5;simp only[zGA,zGB,zGC] at x5;have Wu:=zH KD;have ZP:=zH YV;have hh1:w1.heap.size≠h:=by omega
 have hsz:=cH.size;clear KD YV SH hbx2 hbx3 hb3 cG cH;go_wp2_with fail;go_loopw [7,8,9,28] (λ_ _ _ i wr=>∃k:Nat,k<=p.rows.length/\i=.int .i64 k/\fM wr g h (Sp.bO 488 (p.rows.take k))/\aa (only h) (only h) w3 wr) (λ_ _ _ i _=>p.rows.length-(intOf i).toNat)
 case atStart=>exact⟨0,by omega,rfl,by simpa using Wu.out,aa.refl _ _⟩
 case round=>
  obtain⟨k,hk,rfl,hA,ht⟩:=hrel;have hbr:zB w wr:=dN.trans (ht.below dN.size (λb hb=>by rw[hb];omega));by_cases hlt:k<p.rows.length
  ·obtain⟨b,o,rfl,_,_,hc⟩:=aA.row (Reads.below HR.out hbr) hlt;have hlen:(p.rows.take k).length=k:=by simp;omega
   have hle:=Sp.b_ p.rows (k+1);rw[Sp.bL p.rows k hlt] at hle;have hput:=Oq (size:=488) (rows:=p.rows.take k) p.rows[k] hA (by rw[hlen];omega) (by omega);rw[hlen,<-zg hlt] at hput;have HP:=zH hput;clear hput hlen hle hA;generalize p.rows[k]=r at*;go_wp2_with fail;refine HP.out.mono ?_;rintro e w4 ⟨rfl,om,pV⟩;have NR:=zH om;clear om;go_wp2_with fail;go_roundw
   case rel=>exact⟨k+1,by omega,by go_num,NR.out,ht.trans pV⟩
   case measure=>simp[intOf];omega
  ·obtain rfl:k=p.rows.length:=by omega
   rw[zL] at hA;have hHr:=ZP.out.turns ht hh1;have h6:=hHr.cell 6;simp only[eJ,aB,zGA,zGB,zGC] at h6;have hltr:=hHr.lt;have HA:=zH hA;have l1:p.head.length<=20:=by rw[Sp.Pg.lM];omega
   have l2:(Sp.bO 488 p.rows).length<=488:=by rw[Sp.iw (by omega)];omega
   have B9:Hid (∀W:World,(zC W w1.heap.size 6 (str p.head)/\zB wr W)->zB wr W):=λ_ h=>h.2;clear hA hHr x5;go_wp2_with fail;go_region_with (first
    | (go_at_call 180;refine(G9 (HA.out.read.drewN 1)).mono ?_;rintro e w4 ⟨rfl,rfl⟩)
    | (go_at_call 179;rw[aP,<-hpb.out];refine(HS.out _).mono ?_;rintro e w5 ⟨rfl,hb⟩))
   all_goals
    go_wp2_with fail
    go_ret2
    refine⟨?_,hbr.trans ((below_drewN' (zR wr) 1).trans hb |>.mono hbr.size)⟩;rw[HE.out];rfl
theorem UC {rows:List Sp.Bs} (h:4+4*rows.length+Sp.total rows<=size) (hs:size<=4096):JO (Sp.bO size rows):=by
 have hl:=Sp.iw h;have hc:Sp.two (Sp.bO size rows) 0=rows.length:=Sp.rR (by omega);have AK:Sp.two (Sp.bO size rows) 2=size-Sp.total rows:=Sp.F6 (by omega);have hle:∀i,i<rows.length->Sp.total (rows.take (i+1))<=Sp.total rows:=λi _=>Sp.b_ rows (i+1);have hlen:∀i (hi:i<rows.length),rows[i].length<=Sp.total rows:=λi hi=>by
  have h1:=Sp.bL rows i hi;have h2:=hle i hi;omega
 refine⟨by rw[hc,AK];omega,by rw[AK,hl];omega,λi hi=>?_,λi j hi hj=>?_⟩
 ·rw[hc] at hi;have h1:=Sp.bL rows i hi;have h2:=hle i hi;have h3:=hlen i hi;rw[AK,Sp.qa hi (by omega),Sp.pF hi (by omega),hl];omega
 ·rw[hc] at hi;have hj':j<rows.length:=by omega
  have h1:=Sp.bL rows i hi;have h2:=hle i hi;have h3:=hlen i hi;have h4:=Sp.vu rows (show j+1<=i by omega);rw[Sp.qa hi (by omega),Sp.pF hi (by omega),Sp.qa hj' (by omega),Sp.pF hj' (by have:=hlen j hj';omega)];omega
theorem Ev:(prog.info? 9).map (λi=>(i.zero,i.size,i.bytes))=some (some (.string ByteArray.empty),1,16):=by kernel_rfl
def cO (A:Option Addr):Prop:=A=none\/∃b o,A=some ⟨b,o,none⟩
theorem xM {w:World} {base:Nat} {rows:List Sp.Bs} (h:w.ownsRow base e 1 v rows.length (Ak rows)):
 ∃A c,v=.slice A rows.length c/\cO A/\aA (λb=>base<=b) w A rows:=by
 rcases h.2 with⟨rfl,h0⟩ | ⟨g,cap,cur,rfl,hg,hh,h1,h2,h3,h4⟩
 ·have:rows=[]:=zy h0;subst this;exact⟨none,0,rfl,.inl rfl,Reads.none_⟩
 ·refine⟨_,cap,rfl,.inr ⟨g,0,rfl⟩,by simp,λ_=>⟨g,0,rfl,hg,?_,λj u hu=>?_⟩⟩
  ·rcases za4 g w.heap.size with hlt | hge
   ·exact hlt
   ·rw[zah hge] at hh;cases hh
  ·rw[zaj,cell_of_row w g j cur e (0,0) hh];rw[<-h4] at hu;have hj:j<(cur.toList.take (rows.length*1)).length:=(zad.1 hu).1;rw[zT] at hu
   split at hu
   ·simpa using hu
   ·cases hu
theorem Aj (rows:List Sp.Bs) (k:Nat) (h:k<rows.length):Ak (rows.take (k+1))=Ak (rows.take k)++[str rows[k]]:=by
 unfold Ak;rw[zg h,zI];rfl
theorem pY (w:World) (a:Addr) (u:Value):w.grownBy (w.setCell a u) (some a.block):=
 ⟨rfl,rfl,rfl,by simp[World.setCell],λb _ hb=>Below.heap_setCell w a u b (λe=>hb (congrArg some e))⟩
theorem lB {w:World} (h:aj w b t #[c0,c1,c2,c3,c4,c5]) (d0 d1 d2 d3 d4 d5:Value):
 ∃w',(((((w.setCell ⟨b,0,none⟩ d0).setCell ⟨b,1,none⟩ d1).setCell ⟨b,2,none⟩ d2).setCell ⟨b,3,none⟩ d3).setCell ⟨b,4,none⟩ d4).setCell ⟨b,5,none⟩ d5=w'/\
  aj w' b t #[d0,d1,d2,d3,d4,d5]/\aa (only b) (only b) w w'/\∀k,k≠b->w'.heap[k]? =w.heap[k]? :=
 ⟨_,rfl,(((((h.a_ 0 d0).a_ 1 d1).a_ 2 d2).a_ 3 d3).a_ 4 d4).a_ 5 d5,
  ((((((aa.refl (only b) w).setCell (.inl rfl) d0).setCell (.inl rfl) d1).setCell (.inl rfl) d2).setCell (.inl rfl) d3).setCell (.inl rfl) d4).setCell (.inl rfl) d5,λk hk=>by
   rw[Below.heap_setCell _ _ _ k hk,Below.heap_setCell _ _ _ k hk,Below.heap_setCell _ _ _ k hk,Below.heap_setCell _ _ _ k hk,Below.heap_setCell _ _ _ k hk,Below.heap_setCell _ _ _ k hk]⟩
theorem iy.turns {F F':af} {w:World} {l:Sp.Bs} (hA:iy w g h l) (ht:aa F F' w w') (hg:¬F g) (hh:¬F h):iy w' g h l:=by
 obtain⟨⟨c,h1,hc⟩,h2,h3,h4,h5⟩:=hA;refine⟨⟨c,h1.turns ht hg,hc⟩,λj hj=>?_,h3,h4,zf h5 ht.size⟩;rw[World.cell?_of_block (w:=w) (w':=w') (a:=⟨h,0+j,none⟩) (ht.block h h5 hh)];exact h2 j hj
theorem ET {w:World} {p:Sp.Pg} (hw:p.wf) (hm:p.may):
 Calls prog 137 #[str (bW p)] w λe w'=>∃A c,e=.returned (.tuple #[iR p A c,.int .i64 0])/\cO A/\aA (λb=>w.heap.size<=b) w' A p.rows/\zB w w':=by
 obtain⟨i0,hi,hz0,hz1,hz2⟩:=info_parts Ev;have hfit:=hm.2.2.2.2;have rX:(Sp.bO 488 p.rows).length=488:=Sp.iw (by omega);have hO:=zH (UC (size:=488) (rows:=p.rows) (by omega) (by omega));have hbl:=Sp.Pg.iv hm;have hpl:=iF hm;have HO:=zH λW=>Eu p.body W (by omega);have Vl:Sp.cI p.body=bW p:=rfl;rw[Vl] at HO;have HAR:=zH fun(W:World) b rows h=>all_r (w:=W) (b:=b) (p:=p) (rows:=rows) (t:=p.body) (rest:=Sp.bO 488 p.rows) hw rfl (by omega) h;have HCUT:=zH λW=>Eh p.body 20 488 W (by omega) (by omega);have hcut:(p.body.drop 20).take 488=Sp.bO 488 p.rows:=by
  have:=Sp.gu (x:=p.head) (y:=Sp.bO 488 p.rows) (z:=[]) (k:=20) (n:=488) (by rw[Sp.Pg.lM]) (by rw[rX])
  rwa [za7] at this
 rw[hcut] at HCUT;have HENC:=zH fun(W:World) G A c (h:aA G W A p.rows)=>oG (w:=W) (c:=c) h hw hm;have hneq:((⟨(bW p).toArray⟩:ByteArray).toList==(⟨(bW p).toArray⟩:ByteArray).toList)=true:=by simp
 have d512:(((bW p).length:Int)==512)=true:=by rw[hpl];rfl
 have UY:=zH rX;have HBL:=zH hbl;clear Vl hcut rX hm hw;have hlb:IntKind.i64.wrap ((p.body.length:Int)-20)=488:=by rw[hbl];rfl
 clear hbl;go_enter func137,ntmps137;go_wp2_with fail;refine(HO.out _).mono ?_;rintro e w1 ⟨rfl,hb1⟩;have fN:=(aj.new w 64 #[.int .u8 0,.int .u8 0,.int .u32 0,.int .u64 0,.int .u32 0,.slice none 0 0]).below hb1 (by simp);have cH:=((Below.refl _ w).alloc (za _) (.cells #[.int .u8 0,.int .u8 0,.int .u32 0,.int .u64 0,.int .u32 0,.slice none 0 0] 64)).trans (hb1.mono (by simp));have hs1:w.heap.size<w1.heap.size:=by have:=hb1.size;simp at this;omega
 have HX:=zH fN;clear fN hb1;go_wp2_with fail;refine(HAR.out _ _ _ (aj.new w1 271 (CG p (.slice none 0 0) p.body 0))).mono ?_;rintro e w2 ⟨rfl,SH,dx⟩;have YJ:=(HX.out.alloc _).turns dx (λe=>by have e:w.heap.size=w1.heap.size:=e;omega);have cG:zB w w2:=(cH.alloc cH.size _).trans (dx.below (by simp;omega) (λb hb=>by rw[hb];omega));have hs2:w1.heap.size<w2.heap.size:=by have:=dx.size;simp at this;omega
 have h7:=SH.cell 7;have h8:=SH.cell 8;have h9:=SH.cell 9;have h6:=SH.cell 6;have h10:=SH.cell 10;simp only[eJ,aB,zGA,zGB,zGC] at h6 h7 h8 h9;have HH:=zH SH;have HX2:=zH YJ;clear SH YJ dx cH HX;go_wp2_with fail;go_quiet ((go_at_call 165;exact Hl (HCUT.out _)));go_wp2_with fail;refine(LH (Sp.bO 488 p.rows) (w2.drewN nq) (by rw[UY.out];omega) (by rw[UY.out];omega) hO.out).mono ?_;rintro e w3 ⟨g,h,rfl,KD,hg,hh,hb3⟩;have hbz:zB w2 w3:=(below_drewN' (zR w2) nq).trans hb3;have hg2:w2.heap.size<=g:=hg;have hh2:w2.heap.size<=h:=hh;have hs3:w2.heap.size<=w3.heap.size:=hbz.size;have dN:zB w w3:=cG.trans (hbz.mono cG.size);have YV:=HH.out.below hbz (by omega);have oO:=HX2.out.below hbz (by omega);have x4:=YV.cell 8;have x9:=YV.cell 9;simp only[eJ,aB,zGA,zGB,zGC] at x4 x9;have Wu:=zH KD;have ZP:=zH YV;have HX3:=zH oO;have NN:=zH (Sp.rR (size:=488) (rows:=p.rows) (by omega));clear KD YV oO hg hh hb3 h6 h7 h8 h9 h10 HH HX2;go_wp2_with fail;refine(kA Wu.out).mono ?_;rintro e w4 ⟨rfl,n4,rfl⟩;rw[NN.out];have NR:=zH (Wu.out.drewN n4);have HH4:=zH (ZP.out.drewN n4);have V3:=zH (HX3.out.drewN n4);have fC:=below_drewN' dN n4;have Gx:w3.heap.size<=(w3.drewN n4).heap.size:=za _;clear x4 x9 Wu ZP HX3 hbz dN cG;generalize w3.drewN n4=w4 at*;go_wp2_with fail;go_loopw [10,11,12,69] (λ_ _ _ i wr=>∃(k:Nat) (v:Value),k<=p.rows.length/\i=.int .i64 k/\aj wr w1.heap.size 271 (eJ p v p.body 20 true)/\wr.ownsRow w4.heap.size 9 1 v k (Ak (p.rows.take k))/\aa (only w1.heap.size) (only w1.heap.size) w4 wr) (λ_ _ _ i _=>p.rows.length-(intOf i).toNat)
 case atStart=>exact⟨0,_,by omega,rfl,HH4.out,by simpa[Ak] using World.ownsRow_nil _ _ _ _,aa.refl _ _⟩
 case round=>
  obtain⟨k,v,hk,rfl,hB,Ks,ht⟩:=hrel;have hlr:=hB.lt;have h5:=hB.cell 5;simp only[eJ,aB,zGA,zGB,zGC] at h5;have HAr:=zH (NR.out.turns ht (show ¬g=w1.heap.size by omega) (show ¬h=w1.heap.size by omega));have HB:=zH hB;have Wc:=zH Ks;have hs5:=ht.size;clear hB Ks;by_cases hlt:k<p.rows.length
  ·have hle:=Sp.b_ p.rows (k+1);have IG:=Sp.bL p.rows k hlt;have AL:p.rows[k].length<65536:=by omega
   have YX:=Ov HAr.out k (488-Sp.total (p.rows.take (k+1))) p.rows[k].length (by rw[NN.out];exact hlt) (by rw[UY.out];omega) (Sp.qa hlt (by omega)) (Sp.pF hlt AL) (by rw[UY.out];omega);rw[Sp.Ng hlt (by omega)] at YX;have HG:=zH YX;have HRC:=zH (Aj p.rows k hlt);clear YX IG hle AL;generalize p.rows[k]=r at*;go_wp2_with fail;refine HG.out.mono ?_;rintro e w5 ⟨rfl,n5,rfl⟩;have h5':(wr.drewN n5).cell? ⟨w1.heap.size,5,none⟩=some v:=h5;have JK:Hid ((wr.drewN n5).ownsRow w4.heap.size 9 1 v k (Ak (p.rows.take k))):=zH Wc.out;have eo:=zH (HB.out.drewN n5);have iV:=ht.drewN n5;have hs5':wr.heap.size<=(wr.drewN n5).heap.size:=za _;clear h5 HG Wc HB ht;generalize wr.drewN n5=w5 at*;have g5:=((eo.out.alloc (.cells #[str r] 9)).cell 5);simp only[eJ,aB,zGA,zGB,zGC] at g5;go_wp2_with (at_builtin;refine wpList_append_own _ rfl _ _ 62 rfl w4.heap.size 9 i0 (.string ByteArray.empty) 1 16 underlying62 hi hz0 hz1 hz2 rfl (by decide) _ _ _ rfl (JK.out.alloc _) ⟨w5.heap.size,0,none⟩ 1 1 [str r] rfl rfl (cell_one_new _ _ _) (λx hx=>by simp at hx;subst hx;rfl) (by unfold maxLen;omega) (by omega) (by simp;omega) ?_);intro v' w6 hown hgrow hnil;have gM:=(eo.out.alloc (.cells #[str r] 9)).grown hgrow (λe=>by have:=(JK.out.lt _ e.symm).1;omega);have iA:=(iV.alloc (.cells #[str r] 9)).grown hgrow (λq hq=>.inr (JK.out.lt q hq).1);have f5:=gM.frozen 5;have f6:=gM.cell 5;simp only[eJ,aB,zGA,zGB,zGC] at f6;obtain⟨g6,c6,rfl⟩:∃g6 c6,v'=.slice (some ⟨g6,0,none⟩) (k+1) c6:=by
    rcases hown.2 with⟨_,h0⟩ | ⟨g6,c6,_,h0,_⟩
    ·omega
    ·exact⟨g6,c6,h0⟩
   have HW:=zH hown;clear hnil hown hgrow;have qz:=zH gM;clear gM h5' g5 eo JK;go_wp2_with fail;go_roundw
   case rel=>
    refine⟨k+1,_,by omega,by go_num,qz.out.a_ 5 _,?_,iA.setCell (p:=⟨w1.heap.size,5,none⟩) (.inl rfl) _⟩;rw[HRC.out];exact HW.out.kept (pY _ ⟨w1.heap.size,5,none⟩ _) (.inr (λe=>by
     have hq:=(HW.out.lt g6 rfl).1;injection e with e;have e:g6=w1.heap.size:=e;omega))
   case measure=>simp[intOf];omega
  ·obtain rfl:k=p.rows.length:=by omega
   rw[zL] at Wc;obtain⟨A,c,rfl,hA,hR⟩:=xM Wc.out;have HA:=zH hA;have HR:=zH hR;have y0:=HB.out.cell 0;have y1:=HB.out.cell 1;have y2:=HB.out.cell 2;have y3:=HB.out.cell 3;have y4:=HB.out.cell 4;simp only[eJ,aB,zGA,zGB,zGC] at y0 y1 y2 y3 y4;have hX:=V3.out.turns ht (show ¬w.heap.size=w1.heap.size by omega);have hbwr:zB w wr:=fC.trans (ht.below fC.size (λb hb=>by rw[hb];omega));have HX:=zH hX;clear hR hX ht Wc hA;go_wp2_with fail;refine(HENC.out wr _ A c HR.out).mono ?_;rintro e w7 ⟨rfl,jZ⟩;have fu:=HB.out.below jZ hlr;have yA:=HX.out.below jZ (by omega);have oN:zB w w7:=hbwr.trans (jZ.mono hbwr.size);have hs7:=jZ.size;have YP:=zH (HR.out.below jZ);have y0:=fu.cell 0;have y1:=fu.cell 1;have y2:=fu.cell 2;have y3:=fu.cell 3;have y4:=fu.cell 4;have y5:=fu.cell 5;simp only[eJ,aB,zGA,zGB,zGC] at y0 y1 y2 y3 y4 y5;have z0:=yA.cell 0;have z1:=yA.cell 1;have z2:=yA.cell 2;have z3:=yA.cell 3;have z4:=yA.cell 4;have z5:=yA.cell 5;have f0:=yA.frozen 0;have f1:=yA.frozen 1;have f2:=yA.frozen 2;have f3:=yA.frozen 3;have f4:=yA.frozen 4;have f5:=yA.frozen 5;simp only[zGA,zGB,zGC] at z0 z1 z2 z3 z4 z5;have HX7:=zH yA;clear fu yA jZ HB HX HR;go_wp2_with fail;obtain⟨W8,BX,iB,ig,Fu⟩:=lB HX7.out (.int .u8 p.kind) (.int .u8 p.level) (.int .u32 p.id) (.int .u64 p.aL) (.int .u32 p.next) (.slice A p.rows.length c);rw[BX];have z0:=iB.cell 0;have z1:=iB.cell 1;have z2:=iB.cell 2;have z3:=iB.cell 3;have z4:=iB.cell 4;have z5:=iB.cell 5;simp only[zGA,zGB,zGC] at z0 z1 z2 z3 z4 z5;clear y0 y1 y2 y3 y4 y5 f0 f1 f2 f3 f4 f5;refine bodyPost_ret (v:=.tuple #[iR p A c,.int .i64 0]) (by rw[results_cell_tmp rfl];go_simp) rfl ⟨A,c,rfl,HA.out,?_,?_⟩
   ·have hsz:=fC.size;exact(YP.out.keep ig.size (λb hb=>Fu b (by have hb:w4.heap.size<=b:=hb;omega))).mono (λb hb=>zl hsz hb)
   ·exact oN.trans (ig.below oN.size (λb hb=>by rw[hb];exact za _))
end Go.Proofs.YtfpjlkdklgokiaaGreat
