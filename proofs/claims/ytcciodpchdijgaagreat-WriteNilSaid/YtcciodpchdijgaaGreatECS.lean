/- The evaluator says the truth: part C -/
import Derived.Test.YtcciodpchdijgaaGreatEBS
import Derived.Maps.RangeRun
import Derived.Laws.Tables
import Derived.Calls
import Derived.DefersIn
import Derived.OrdersIn
import Derived.RangeFuncIn
import Derived.RangeFuncLeaves
import Derived.Conc.LoneCalls
import Derived.Conc.LoneSelect
set_option linter.constructorNameAsVariable false
set_option linter.unusedVariables false
set_option linter.unusedSimpArgs false
namespace Ev
noncomputable section
open Go
section
variable {T : Tb} {ρ : Rho} {h : HP} {w : World} {K : Kv} {P : Program} {l : LS} {e : Tr AV}

theorem run_setObj {r : Nat} {o o' : Obj} (ho : w.heap[r]? = some o) (hc : ∀ a b c, o ≠ .cells a b c) : (setObj r o').run P w = .ok () { w with heap := w.heap.setIfInBounds r o' } := by
  simp only [setObj, Sem.run, ho]
theorem ML.append {m n : List (AV × AV × Nat)} {es fs : List MapEntry} (h1 : ML ρ m es) (h2 : ML ρ n fs) : ML ρ (m ++ n) (es ++ fs) := by
  induction h1 with
  | nil => exact h2
  | cons a b _ ih => exact .cons a b ih
theorem ML.upd {k v : AV} {x y : Value} (hk : VR ρ k x) (hv : VR ρ v y) : ∀ {m : List (AV × AV × Nat)} {es : List MapEntry} {j b : Nat} {en : MapEntry} , ML ρ m es → es[j]? = some en → en.born = b → ML ρ (updM k v b j m) (es.set j { key := x, val := y, born := b })
  | _, _, j, b, en, .nil, he, _ => by simp at he
  | _, _, 0, b, en, .cons _ _ t, he, hb => by
    simp at he; subst he
    simp only [updM, List.set_cons_zero]
    exact .cons hk hv t
  | _, _, j + 1, b, en, .cons a c t, he, hb => by
    simp only [updM, List.set_cons_succ]
    exact .cons a c (ML.upd hk hv t (by simpa using he) hb)
theorem ML.rem : ∀ {m : List (AV × AV × Nat)} {es : List MapEntry} (j : Nat), ML ρ m es → ML ρ (remM j m) (es.eraseIdx j)
  | _, _, j, .nil => by simp [remM]; exact .nil
  | _, _, 0, .cons _ _ t => by simpa [remM] using t
  | _, _, j + 1, .cons a c t => by simp only [remM, List.eraseIdx_cons_succ]; exact .cons a c (t.rem j)
theorem modify_set {es : Array MapEntry} {j : Nat} {en : MapEntry} {f : MapEntry → MapEntry} (he : es[j]? = some en) : (es.modify j f).toList = es.toList.set j (f en) := by
  apply List.ext_getElem?
  intro i
  rw [Array.getElem?_toList, Array.getElem?_modify, List.getElem?_set]
  by_cases hij : j = i
  · subst hij
    obtain ⟨hlt, hee⟩ := Array.getElem?_eq_some_iff.1 he
    simp [he, hlt, hee]
  · simp [hij]
theorem map_live {a : Ps} {m : List (AV × AV × Nat)} {c : Nat} (he : h.get a = .map m c) : h.live a := by unfold HP.live; rw [he]; intro h; cases h
theorem a_mu (g : Good T ρ h w) {d : TypeDesc} {q : Kq} (hq : QK d q) {u k v : AV} {s x y : Value} {mt kt el : TypeId} (hs : VR ρ u s) (hx : VR ρ k x) (hy : VR ρ v y) (ht : P.underlying mt = some (.map kt el)) (hkt : P.underlying kt = some d)
    (hk : vMu h K q k v u = .yes) : ∃ k' w', K .un k' = .yes ∧ Post T ρ h w ρ k' w' ∧ (Instr.mapUpdate mt s x y).run P w = .ok () w' := by
  unfold vMu at hk
  split at hk
  · unfold vMuB at hk
    split at hk
    · rename_i m c he
      obtain ⟨lc, es, hl, ho, hm⟩ := map_at g he
      cases hs with
      | mp hl' =>
        rw [hl] at hl'; cases hl'
        rcases find_ok hq hx 0 hm hk with ⟨hN, hf⟩ | ⟨j, k', v', b, en, hK, hj1, hj, hb, _, hf, hsb⟩
        · refine ⟨_, _, hN, Post.put (n := w.drawn) g (map_live he) hl (.map (es := es.push { key := x, val := y, born := c }) ?_), ?_⟩
          · rw [Array.toList_push]; exact hm.append (.cons hx hy .nil)
          · simp [Instr.mapUpdate, run_und ht, run_getObj ho (by simp), run_key hq hkt, Instr.findKey, run_und hkt, hf, run_setObj ho (by simp)]
        · have hj' : es[j]? = some en := by simpa using hj
          refine ⟨_, _, hK, Post.put (n := w.drawn) g (map_live he) hl (.map (es := es.modify j fun e => { e with key := x, val := y }) ?_), ?_⟩
          · rw [modify_set hj', hb]
            exact ML.upd hx hy hm hj hb
          · simp [Instr.mapUpdate, run_und ht, run_getObj ho (by simp), run_key hq hkt, Instr.findKey, run_und hkt, hf, run_setObj ho (by simp), hj', Instr.keyThatStays, hsb]
    · exact no_yes hk
  · exact no_yes hk
theorem a_me (g : Good T ρ h w) {d : TypeDesc} {q : Kq} (hq : QK d q) {u k z : AV} {s x zv : Value} {mt kt el : TypeId} (hs : VR ρ u s) (hx : VR ρ k x) (ht : P.underlying mt = some (.map kt el)) (hkt : P.underlying kt = some d) (hz : zrOf P el = some zv) (hzr : VR ρ z zv)
    (hk : vMe h K q z k u = .yes) : Ans T P ρ h w K (Instr.mapEntry mt s x) := by
  unfold vMe at hk
  split at hk
  · unfold vMeB at hk
    split at hk
    · rename_i m c he
      obtain ⟨lc, es, hl, ho, hm⟩ := map_at g he
      cases hs with
      | mp hl' =>
        rw [hl] at hl'; cases hl'
        rcases find_ok hq hx 0 hm hk with ⟨hN, hf⟩ | ⟨j, k', v', b, en, hK, hj1, hj, hb, hv, hf, hsb⟩
        · refine ⟨_, _, ρ, _, .tuple #[zv, goInt c], hN, Post.put (n := w.drawn) g (map_live he) hl (.map (es := es.push { key := x, val := zv, born := c }) ?_), .tu (.cons hzr (.cons (.nt _ _) .nil)) trivial, ?_⟩
          · rw [Array.toList_push]; exact hm.append (.cons hx hzr .nil)
          · simp [Instr.mapEntry, run_und ht, run_getObj ho (by simp), run_key hq hkt, Instr.findKey, run_und hkt, hf, run_setObj ho (by simp), run_zero hz]
        · have hj' : es[j]? = some en := by simpa using hj
          refine ⟨_, _, ρ, _, .tuple #[en.val, goInt b], hK, Post.put (n := w.drawn) g (map_live he) hl (.map (es := es.modify j fun e => { e with key := x }) ?_), .tu (.cons hv (.cons (.nt _ _) .nil)) trivial, ?_⟩
          · rw [modify_set hj', hb]
            exact ML.upd hx hv hm hj hb
          · simp [Instr.mapEntry, run_und ht, run_getObj ho (by simp), run_key hq hkt, Instr.findKey, run_und hkt, hf, run_setObj ho (by simp), hj', Instr.keyThatStays, hsb, hb]
    · exact no_yes hk
  · exact no_yes hk
theorem findB_ok {s : Nat} : ∀ {m : List (AV × AV × Nat)} {es : List MapEntry} {Kf : Nat → AV → R}, ML ρ m es → findB s Kf m = .yes → ∃ j q en, Kf j q = .yes ∧ es[j]? = some en ∧ en.born = s ∧ VR ρ q en.key ∧ es.findIdx? (fun e => (e.born : Int) == (s : Int)) = some j
  | _, _, Kf, .nil, hf => no_yes hf
  | _, _, Kf, @ML.cons _ k1 v b y z r es hk1 hv1 t, hf => by
    unfold findB at hf
    rw [bf_if] at hf
    split at hf
    · rename_i e
      have e : b = s := by simpa using e
      subst e
      exact ⟨0, k1, _, hf, rfl, rfl, hk1, by simp [List.findIdx?_cons]⟩
    · rename_i e
      have e : b ≠ s := by simpa using e
      obtain ⟨j, q, en, h1, h2, h3, h4, h5⟩ := findB_ok t hf
      refine ⟨j + 1, q, en, h1, by simpa using h2, h3, h4, ?_⟩
      have : ((b : Int) == (s : Int)) = false := by simpa using (by omega : (b : Int) ≠ s)
      simp [List.findIdx?_cons, this, h5]
theorem a_es (g : Good T ρ h w) {u v p : AV} {s y z : Value} {mt : TypeId} (hs : VR ρ u s) (hp : VR ρ p z) (hy : VR ρ v y) (hk : nat p (fun s => vEs h K v s u) = .yes) :
    ∃ k' w', K .un k' = .yes ∧ Post T ρ h w ρ k' w' ∧ (Instr.entryStore mt s z y).run P w = .ok () w' := by
  obtain ⟨kk, n, rfl, hk1⟩ := nat_inv hk
  clear hk
  cases hp
  unfold vEs at hk1
  split at hk1
  · unfold vEsB at hk1
    split at hk1
    · rename_i m c he
      obtain ⟨lc, es, hl, ho, hm⟩ := map_at g he
      cases hs with
      | mp hl' =>
        rw [hl] at hl'; cases hl'
        obtain ⟨j, q, en, hK, hj, hb, hq, hfi⟩ := findB_ok hm hk1
        have hj' : es[j]? = some en := by simpa using hj
        have hfi' : es.findIdx? (fun e => (e.born : Int) == (n : Int)) = some j := by
          have e1 : es = es.toList.toArray := by simp
          rw [e1, List.findIdx?_toArray]; exact hfi
        refine ⟨_, _, hK, Post.put (n := w.drawn) g (map_live he) hl (.map (es := es.modify j fun e => { e with val := y }) ?_), ?_⟩
        · rw [modify_set hj', hb]
          exact ML.upd hq hy hm hj hb
        · simp only [Instr.entryStore, Sem.run_bind, run_getObj ho (by simp), Result.andThen_ok, asInt, asIntOf, Sem.run_pure, Int.ofNat_eq_natCast, hfi', run_setObj ho (by simp)]
    · exact no_yes hk1
  · exact no_yes hk1
theorem a_del (g : Good T ρ h w) {d : TypeDesc} {q : Kq} (hq : QK d q) {u k : AV} {s x : Value} {mt kt el tr : TypeId} {ts : Array TypeId} (hs : VR ρ u s) (hx : VR ρ k x) (h0 : ts[0]? = some mt) (ht : P.underlying mt = some (.map kt el)) (hkt : P.underlying kt = some d)
    (hk : vDel h K q k u = .yes) : Ans T P ρ h w K (Builtin.delete_ ts tr #[s, x]) := by
  have hun : VR ρ (.tu .nil) (.tuple #[]) := .tu .nil trivial
  unfold vDel at hk
  split at hk
  · cases hs
    exact .still g hk hun (by simp [Builtin.delete_, h0, run_und ht, run_key hq hkt])
  · unfold vDelB at hk
    split at hk
    · rename_i m c he
      obtain ⟨lc, es, hl, ho, hm⟩ := map_at g he
      cases hs with
      | mp hl' =>
        rw [hl] at hl'; cases hl'
        rcases find_ok hq hx 0 hm hk with ⟨hN, hf⟩ | ⟨j, k', v', b, en, hK, hj1, hj, hb, _, hf, hsb⟩
        · refine .still g hN hun ?_
          obtain ⟨hlt, hoe⟩ := Array.getElem?_eq_some_iff.1 ho
          have : w.heap.setIfInBounds lc.blk (.map es c) = w.heap := by rw [← hoe, Array.setIfInBounds, dif_pos hlt]; simp
          simp [Builtin.delete_, h0, run_und ht, run_getObj ho (by simp), run_key hq hkt, Instr.findKey, run_und hkt, hf, run_setObj ho (by simp), this]
        · refine ⟨_, _, ρ, _, _, hK, Post.put (n := w.drawn) g (map_live he) hl (.map (es := es.eraseIdxIfInBounds j) ?_), hun, ?_⟩
          · have : (es.eraseIdxIfInBounds j).toList = es.toList.eraseIdx j := by simp
            rw [this]; exact hm.rem j
          · simp [Builtin.delete_, h0, run_und ht, run_getObj ho (by simp), run_key hq hkt, Instr.findKey, run_und hkt, hf, run_setObj ho (by simp)]
    · exact no_yes hk
  · exact no_yes hk
theorem a_clrm (g : Good T ρ h w) {u : AV} {s : Value} {mt kt el tr : TypeId} {ts : Array TypeId} (hs : VR ρ u s) (h0 : ts[0]? = some mt) (ht : P.underlying mt = some (.map kt el)) (hk : vClrm h K u = .yes) : Ans T P ρ h w K (Builtin.clear_ ts tr #[s]) := by
  have hun : VR ρ (.tu .nil) (.tuple #[]) := .tu .nil trivial
  unfold vClrm at hk
  split at hk
  · cases hs
    exact .still g hk hun (by simp [Builtin.clear_, h0, run_und ht])
  · unfold vClrmB at hk
    split at hk
    · rename_i m c he
      obtain ⟨lc, es, hl, ho, hm⟩ := map_at g he
      cases hs with
      | mp hl' =>
        rw [hl] at hl'; cases hl'
        refine ⟨_, _, ρ, _, _, hk, Post.put (n := w.drawn) g (map_live he) hl (.map (es := #[]) .nil), hun, ?_⟩
        simp [Builtin.clear_, h0, run_und ht, run_getObj ho (by simp), run_setObj ho (by simp)]
    · exact no_yes hk
  · exact no_yes hk
end
end
end Ev
namespace Ev
noncomputable section
open Go
section
variable {T : Tb} {ρ : Rho} {h : HP} {w : World} {K : Kv} {P : Program} {l : LS} {e : Tr AV}

theorem a_rng (g : Good T ρ h w) {u : AV} {s : Value} {mt kt el : TypeId} (hs : VR ρ u s) (ht : P.underlying mt = some (.map kt el)) (hk : vRng h K u = .yes) : Ans T P ρ h w K (Instr.range mt s) := by
  have hres : ∀ σ : Rho, σ h.nx = some ⟨w.heap.size, 0, 0⟩ → VR σ (.pt h.nx 0) (.pointer (some ⟨w.heap.size, 0, none⟩)) := fun σ hσ => by have := VR.pt (ρ := σ) 0 hσ; simpa using this
  unfold vRng at hk
  split at hk
  · cases hs
    refine ⟨_, _, _, _, _, hk, Post.new g (sz := 0) (o := .mapIter none 0 #[] 0) (n := w.drawn) (.miter0 rfl), hres _ (by simp), ?_⟩
    simp [Instr.range, run_und ht]
  · unfold vRngB at hk
    split at hk
    · rename_i _ a _ m c he
      obtain ⟨lc, es, hl, ho, hm⟩ := map_at g he
      cases hs with
      | mp hl' =>
        rw [hl] at hl'; cases hl'
        have hne : a ≠ h.nx := fun e' => by have := g.dom a lc hl; rw [e'] at this; omega
        refine ⟨_, _, _, _, _, hk, Post.new g (sz := 0) (o := .mapIter (some lc.blk) c #[] c) (n := w.drawn) (.miter (k := lc) (by simp [hne, hl]) (by simp) (fun _ hx => by cases hx) (by simp) (Nat.le_refl _) rfl), hres _ (by simp), ?_⟩
        simp [Instr.range, run_und ht, run_getObj ho (by simp)]
    · exact no_yes hk
  · exact no_yes hk
theorem both_inv {a b : R} (hk : R.both a b = .yes) : a = .yes ∧ b = .yes := by
  unfold R.both at hk
  cases a <;> first | (cases hk; done) | exact ⟨rfl, hk⟩
theorem ins_mem {b c : Nat} : ∀ {s : List Nat}, c ∈ insN b s ↔ c = b ∨ c ∈ s
  | [] => by simp [insN]
  | d :: s => by
    unfold insN; rw [bf_if]
    split
    · simp
    · simp only [List.mem_cons, ins_mem (s := s)]; constructor <;> rintro (h | h | h) <;> simp [h]
theorem seen_all {seen : List Nat} : ∀ {m : List (AV × AV × Nat)} {es : List MapEntry}, ML ρ m es → allSeen seen m = true → ∀ en ∈ es, seen.contains en.born = true
  | _, _, .nil, _ => by simp
  | _, _, @ML.cons _ k v b x y r es _ _ t, hf => by
    unfold allSeen at hf; rw [bf_if] at hf
    split at hf
    · rename_i hb
      intro en hen
      rcases List.mem_cons.1 hen with rfl | hen
      · exact hb
      · exact seen_all t hf en hen
    · cases hf
theorem nxt_all {r m : Ps} {since c : Nat} {seen : List Nat} : ∀ {ms : List (AV × AV × Nat)} {es : List MapEntry}, ML ρ ms es → vNxtA h K r m since c seen ms = .yes → ∀ en ∈ es, seen.contains en.born = false →
    en.born < since ∧ ∃ k v, VR ρ k en.key ∧ VR ρ v en.val ∧ K (.tu (.c (.bo true) (.c k (.c v .nil)))) (h.put r (.miter (some m) since (insN en.born seen) (some en.born) c)) = .yes
  | _, _, .nil, _ => by simp
  | _, _, @ML.cons _ k v b x y r' es hk1 hv1 t, hf => by
    unfold vNxtA at hf
    obtain ⟨h1, h2⟩ := both_inv hf
    intro en hen hns
    rcases List.mem_cons.1 hen with rfl | hen
    · have hns : seen.contains b = false := hns
      rw [hns] at h1
      obtain ⟨h3, h4⟩ := bf_yes' h1
      exact ⟨by have : b + 1 ≤ since := by simpa using h3
                show b < since; omega, k, v, hk1, hv1, h4⟩
    · exact nxt_all t h2 en hen hns
theorem all_seen' {seen : List Nat} : ∀ {m : List (AV × AV × Nat)} {es : List MapEntry}, ML ρ m es → (∀ en ∈ es, seen.contains en.born = true) → allSeen seen m = true
  | _, _, .nil, _ => rfl
  | _, _, @ML.cons _ k v b x y r es _ _ t, hf => by
    unfold allSeen; rw [bf_if, if_pos (hf _ (List.mem_cons_self ..))]
    exact all_seen' t (fun en hen => hf en (List.mem_cons_of_mem _ hen))
theorem a_nxt (g : Good T ρ h w) {u : AV} {s : Value} (hs : VR ρ u s) (hk : vNxt h K u = .yes) {ty : TypeId} : Ans T P ρ h w K (Instr.next s false ty) := by
  unfold vNxt at hk
  split at hk
  · rename_i r
    unfold vNxtB at hk
    split at hk
    · rename_i since seen lb last he
      obtain ⟨lr, o, hlr, ho, hb⟩ := g.blk r (by unfold HP.live; rw [he]; intro h; cases h)
      rw [he] at hb
      cases hb with
      | miter0 h0 =>
        cases hs with
        | pt _ hl' =>
          rw [hlr] at hl'; cases hl'
          refine .still g hk (.tu (.cons (.bo false) .nil) trivial) ?_
          simp [Instr.next, h0, run_getObj ho (by simp)]
    · rename_i m since seen lb last he
      obtain ⟨lr, o, hlr, ho, hb⟩ := g.blk r (by unfold HP.live; rw [he]; intro h; cases h)
      have hlive : h.live r := by unfold HP.live; rw [he]; intro h; cases h
      rw [he] at hb
      cases hb with
      | @miter _ _ _ _ _ _ sn hm hsn hlb hbs hsl h0 =>
        rename_i lm
        unfold vNxtM at hk
        split at hk
        · rename_i ms c hem
          obtain ⟨lc, es, hl, hoe, hml⟩ := map_at g hem
          rw [hm] at hl; cases hl
          have hcon : ∀ b, sn.contains b = seen.contains b := fun b => by
            rw [Bool.eq_iff_iff, Array.contains_iff_mem, List.contains_iff_mem]; exact (hsn b).symm
          cases hs with
          | pt _ hl' =>
            rw [hlr] at hl'; cases hl'
            have hold : ∀ x ∈ es.toList, x.born < since := fun x hx => by
              cases hc : seen.contains x.born with
              | true => exact hbs _ (List.contains_iff_mem.1 hc)
              | false =>
                rw [bf_if] at hk
                split at hk
                · rename_i hall
                  rw [seen_all hml hall x hx] at hc; cases hc
                · exact (nxt_all hml (bf_yes' hk).2 x hx hc).1
            have e0 : Value.pointer (some ⟨lr.blk, lr.base + 0, none⟩) = .pointer (some ⟨lr.blk, 0, none⟩) := by rw [h0]
            rcases Go.run_next_at (P := P) w ty lr.blk lm.blk since last sn es c ho hoe hold hsl with ⟨hz, hrun⟩ | ⟨en, hen, w1, hw1, hrun⟩
            · have hall : allSeen seen ms = true := all_seen' hml (fun en hen => by rw [← hcon]; exact Go.all_seen es sn hz en hen)
              rw [hall] at hk
              have hk : K (.tu (.c (.bo false) .nil)) (h.put r (.miter (some m) since seen none last)) = .yes := hk
              have hp : Post T ρ h w ρ (h.put r (.miter (some m) since seen none last)) w := by
                have := Post.put (n := w.drawn) g hlive hlr (b := .miter (some m) since seen none last) (o := .mapIter (some lm.blk) since sn last) (.miter hm hsn (fun _ hx => by cases hx) hbs hsl h0)
                obtain ⟨hlt, hoe'⟩ := Array.getElem?_eq_some_iff.1 ho
                have e1 : w.heap.setIfInBounds lr.blk (.mapIter (some lm.blk) since sn last) = w.heap := by rw [← hoe', Array.setIfInBounds, dif_pos hlt]; simp
                rw [e1] at this; exact this
              refine ⟨_, _, ρ, w, _, hk, hp, .tu (.cons (.bo false) .nil) trivial, ?_⟩
              rw [e0]; exact hrun
            · obtain ⟨hem', hes'⟩ := Go.mem_left hen
              have hns : seen.contains en.born = false := by rw [← hcon]; exact hes'
              have hnall : ¬ allSeen seen ms = true := fun hall => by rw [seen_all hml hall en hem'] at hns; cases hns
              rw [bf_if, if_neg hnall] at hk
              obtain ⟨hsc, hk⟩ := bf_yes' hk
              have hsc : since ≤ c := by simpa using hsc
              obtain ⟨hlt, k, v, hkr, hvr, hk⟩ := nxt_all hml hk en hem' hns
              have hp : Post T ρ h w ρ (h.put r (.miter (some m) since (insN en.born seen) (some en.born) c)) (Go.ChangeMaps.setBlock w1 lr.blk (.mapIter (some lm.blk) since (sn.push en.born) c)) := by
                have hbr : BR T ρ lr (.miter (some m) since (insN en.born seen) (some en.born) c) (.mapIter (some lm.blk) since (sn.push en.born) c) :=
                  .miter hm (fun b => by rw [ins_mem, Array.mem_push, hsn b]; exact or_comm) (fun b hb => by cases hb; simp) (fun b hb => by
                    rcases ins_mem.1 hb with rfl | hb
                    · exact hlt
                    · exact hbs b hb) hsc h0
                rcases hw1 with rfl | rfl
                · exact Post.put (n := w1.drawn) g hlive hlr hbr
                · exact Post.put (n := w.drew.drawn) g hlive hlr hbr
              refine ⟨_, _, ρ, _, _, hk, hp, .tu (.cons (.bo true) (.cons hkr (.cons hvr .nil))) trivial, ?_⟩
              rw [e0]; exact hrun
        · exact no_yes hk
    · exact no_yes hk
  · exact no_yes hk
theorem ent_ok {b : Nat} {Kv' : AV → R} : ∀ {ms : List (AV × AV × Nat)} {es : List MapEntry}, ML ρ ms es → entL b Kv' ms = .yes →
    ∃ en k v, es.find? (·.born == b) = some en ∧ VR ρ k en.key ∧ VR ρ v en.val ∧ Kv' (.tu (.c k (.c v .nil))) = .yes
  | _, _, .nil, hf => by cases hf
  | _, _, @ML.cons _ k v c x y r' es hk1 hv1 t, hf => by
    unfold entL at hf; rw [bf_if] at hf
    split at hf
    · rename_i hb
      have hb : c = b := by simpa using hb
      exact ⟨⟨x, y, c⟩, k, v, by simp [List.find?, hb], hk1, hv1, hf⟩
    · rename_i hb
      have hb : ¬ c = b := by simpa using hb
      obtain ⟨en, k, v, he, r⟩ := ent_ok t hf
      exact ⟨en, k, v, by simp only [List.find?, beq_eq_false_iff_ne.2 hb]; exact he, r⟩
theorem a_ent (g : Good T ρ h w) {u : AV} {s : Value} (hs : VR ρ u s) (hk : vEnt h K u = .yes) : AnsQ T P ρ h w K (Instr.entry s) := by
  unfold vEnt at hk
  split at hk
  · rename_i r
    unfold vEntB at hk
    split at hk
    · rename_i m _ _ b last he
      obtain ⟨lr, o, hlr, ho, hb⟩ := g.blk r (by unfold HP.live; rw [he]; intro h; cases h)
      rw [he] at hb
      cases hb with
      | @miter _ _ _ _ _ _ sn hm hsn hlb hbs hsl h0 =>
        rename_i lm
        unfold vEntM at hk
        split at hk
        · rename_i ms c hem
          obtain ⟨lc, es, hl, hoe, hml⟩ := map_at g hem
          rw [hm] at hl; cases hl
          obtain ⟨hcl, hk⟩ := bf_yes' hk
          have hcl : c = last := by simpa using hcl
          cases hs with
          | pt _ hl' =>
            rw [hlr] at hl'; cases hl'
            obtain ⟨en, k, v, hf, hkr, hvr, hk⟩ := ent_ok hml hk
            have hf' : es.find? (·.born == b) = some en := by rw [← Array.find?_toList]; exact hf
            refine .still g hk (.tu (.cons hkr (.cons hvr .nil)) trivial) ?_
            simp [Instr.entry, h0, run_getObj ho (by simp), run_getObj hoe (by simp), hlb _ rfl, hcl, hf']
        · exact no_yes hk
    · exact no_yes hk
  · exact no_yes hk
end
end
end Ev
namespace Ev
noncomputable section
open Go

/-! ### constants -/
def packL : List UInt8 → Nat
  | [] => 0
  | b :: r => Nat.add b.toNat (Nat.mul 256 (packL r))
theorem packL_cons (b : UInt8) (r : List UInt8) : packL (b :: r) = b.toNat + 256 * packL r := rfl
theorem packL_lt : ∀ l : List UInt8, packL l < 256 ^ l.length
  | [] => by simp [packL]
  | b :: r => by
    have := packL_lt r
    have hb : b.toNat < 256 := b.toNat_lt
    rw [packL_cons, List.length_cons, Nat.pow_succ]
    omega
theorem byt_packL : ∀ (l : List UInt8) (i : Nat) (h : i < l.length), UInt8.ofNat (byt (packL l) i) = l[i]
  | b :: r, 0, _ => by
    have hb : b.toNat < 256 := b.toNat_lt
    have : byt (packL (b :: r)) 0 = b.toNat := by simp [byt, packL_cons]
    rw [this]; simp
  | b :: r, i + 1, h => by
    have hb : b.toNat < 256 := b.toNat_lt
    have : byt (packL (b :: r)) (i + 1) = byt (packL r) i := by
      simp only [byt, packL_cons, Nat.pow_succ, Nat.mul_comm (256 ^ i) 256, ← Nat.div_div_eq_div_mul]
      rw [show (b.toNat + 256 * packL r) / 256 = packL r from by omega]
    rw [this, byt_packL r i (by simpa using h)]; simp
theorem strOf_packL (s : ByteArray) : strOf s.size (packL s.data.toList) = s := by
  cases s with
  | mk a =>
    unfold strOf
    congr 1
    apply Array.ext
    · simp [ByteArray.size]
    · intro i h1 h2
      simp only [ByteArray.size, Array.getElem_map, List.getElem_toArray, List.getElem_map, List.getElem_range]
      rw [byt_packL _ _ (by simpa using h2)]; simp
/-- the place of a number -/
def psF : Nat → Nat → Ps
  | 0, _ => .h
  | k + 1, n => bif Nat.ble n 1 then .h else bif Nat.beq (Nat.mod n 2) 0 then .o (psF k (Nat.div n 2)) else .i (psF k (Nat.div n 2))
theorem psF_num : ∀ (k n : Nat), 0 < n → n < 2 ^ k → (psF k n).num = n
  | 0, n, h0, h => by simp at h; omega
  | k + 1, n, h0, h => by
    rw [Nat.pow_succ] at h
    unfold psF
    by_cases h1 : n ≤ 1
    · have : n = 1 := by omega
      subst this; rfl
    · have e1 : Nat.ble n 1 = false := by rw [← Bool.not_eq_true, Nat.ble_eq]; omega
      have ih := psF_num k (n / 2) (by omega) (by omega)
      rw [e1]
      show (bif Nat.beq (n % 2) 0 then Ps.o (psF k (n / 2)) else Ps.i (psF k (n / 2))).num = n
      by_cases h2 : n % 2 = 0
      · rw [h2]; show (Ps.o (psF k (n / 2))).num = n; simp only [Ps.num, ih]; omega
      · have : n % 2 = 1 := by omega
        rw [this]; show (Ps.i (psF k (n / 2))).num = n; simp only [Ps.num, ih]; omega
def Ps.of (n : Nat) : Ps := psF 40 (Nat.add n 1)
theorem Ps.of_num {n : Nat} (h : n + 1 < 2 ^ 40) : (Ps.of n).num = n + 1 := psF_num 40 (n + 1) (by omega) h
theorem Ps.of_idx {n : Nat} (h : n + 1 < 2 ^ 40) : (Ps.of n).idx = n := by unfold Ps.idx; rw [Ps.of_num h]; rfl
/-- a byte ahead of cells -/
def cvB (n : Int) (v : AV) (r : CV) : CV :=
  match n with
  | .ofNat n => bif Nat.ble n 255 then mkb 1 n r else .c v r
  | _ => .c v r
def unL : List Value → CV
  | [] => .nil
  | _ :: r => .c .un (unL r)
theorem unL_ok {ρ : Rho} : ∀ l : List Value, AL ρ (unL l).exp l ∧ (unL l).wf
  | [] => ⟨.nil, trivial⟩
  | v :: r => ⟨.cons (.un v) (unL_ok r).1, (unL_ok (ρ := ρ) r).2⟩
mutual
def cvV : Nat → Value → AV
  | 0, _ => .un
  | _ + 1, .bool b => .bo b
  | _ + 1, .int k n => .nt k n
  | _ + 1, .string s => .st s.size (packL s.data.toList)
  | _ + 1, .pointer none => .pn
  | _ + 1, .slice none 0 0 => .sn
  | _ + 1, .map none => .mn
  | _ + 1, .chan none => .cn
  | _ + 1, .nilFunc => .fz
  | _ + 1, .nilIface => .iz
  | _ + 1, .func (.func g) a b => bif a.isEmpty && (b.isEmpty && Nat.ble g 1000000) then .fn (Ps.of g) .nil .nil else .un
  | n + 1, .iface t v => .it t (cvV n v)
  | n + 1, .agg cs => .ag (cvL n cs.toList)
  | n + 1, .tuple cs => .tu (cvL n cs.toList)
  | _ + 1, _ => .un
def cvL : Nat → List Value → CV
  | 0, l => unL l
  | _ + 1, [] => .nil
  | n + 1, .int .u8 i :: r => cvB i (.nt .u8 i) (cvL n r)
  | n + 1, v :: r => .c (cvV n v) (cvL n r)
end
theorem cvB_ok {ρ : Rho} {n : Int} {r : CV} {vs : List Value} (h : AL ρ r.exp vs) (hw : r.wf) : AL ρ (cvB n (.nt .u8 n) r).exp (.int .u8 n :: vs) ∧ (cvB n (.nt .u8 n) r).wf := by
  unfold cvB
  split
  · rename_i n
    cases hb : Nat.ble n 255 with
    | false => exact ⟨.cons (.nt _ _) h, hw⟩
    | true =>
      have hb : n ≤ 255 := by simpa using hb
      show AL ρ (mkb 1 n r).exp _ ∧ (mkb 1 n r).wf
      rw [exp_mkb (by omega)]
      refine ⟨?_, wf_mkb (by omega) hw⟩
      have : bys 1 n = [.nt .u8 (.ofNat n)] := by
        simp only [bys, List.range_succ, List.range_zero, List.nil_append, List.map_cons, List.map_nil, byA, byt, Nat.pow_zero, Nat.div_one]
        rw [Nat.mod_eq_of_lt (by omega)]
      rw [this]
      exact .cons (.nt _ _) h
  · exact ⟨.cons (.nt _ _) h, hw⟩
mutual
theorem cvV_ok {ρ : Rho} : ∀ (n : Nat) (v : Value), VR ρ (cvV n v) v
  | 0, v => by unfold cvV; exact .un v
  | n + 1, v => by
    unfold cvV
    split
    all_goals first | exact .un _ | exact .bo _ | exact .nt _ _ | exact .pn | exact .sn | exact .mn | exact .cn | exact .fz | exact .iz | skip
    · rename_i s e
      have := VR.st (ρ := ρ) s.size (packL s.data.toList) (by have := packL_lt s.data.toList; rw [Array.length_toList] at this; exact this)
      rwa [strOf_packL] at this
    · rename_i g a b e
      cases hc : (a.isEmpty && (b.isEmpty && Nat.ble g 1000000)) with
      | false => exact .un _
      | true =>
        simp at hc
        obtain ⟨rfl, rfl, hg⟩ := hc
        have := VR.fn (ρ := ρ) (f := Ps.of g) (a := .nil) (b := .nil) (xs := #[]) (ys := #[]) .nil .nil trivial trivial
        rwa [Ps.of_idx (by omega)] at this
    · rename_i e; cases e; exact .it (cvV_ok _ _)
    · rename_i e; cases e; exact .ag (cvL_ok _ _).1 (cvL_ok (ρ := ρ) _ _).2
    · rename_i e; cases e; exact .tu (cvL_ok _ _).1 (cvL_ok (ρ := ρ) _ _).2
theorem cvL_ok {ρ : Rho} : ∀ (n : Nat) (l : List Value), AL ρ (cvL n l).exp l ∧ (cvL n l).wf
  | 0, l => by unfold cvL; exact unL_ok l
  | n + 1, [] => by unfold cvL; exact ⟨.nil, trivial⟩
  | n + 1, v :: r => by
    have ih := cvL_ok (ρ := ρ) n r
    have ih2 := cvV_ok (ρ := ρ) n v
    unfold cvL
    split
    · rename_i e; cases e
    · rename_i e; cases e
    · rename_i e1 e2; cases e1; cases e2; exact cvB_ok ih.1 ih.2
    · rename_i e1 e2; cases e1; cases e2; exact ⟨.cons ih2 ih.1, ih.2⟩
end
end
end Ev
namespace Ev
noncomputable section
open Go
section
variable {T : Tb} {ρ : Rho} {h : HP} {w : World} {K : Kv} {P : Program} {l : LS} {e : Tr AV}

/-! ### operations: the code of one, and that it tells the truth -/
def OpAns (T : Tb) (P : Program) (ρ : Rho) (h : HP) (w : World) (K : Kv) (q : Bool) (s : Sem Next) : Prop :=
  ∃ v k σ u, K v k = .yes ∧ (Post T ρ h w σ k u ∧ (q = true → u = w ∧ k = h ∧ σ = ρ)) ∧ ((∃ x, VR σ v x ∧ s.run P w = .ok (.value x) u) ∨ (v = .un ∧ s.run P w = .ok .skip u))
theorem Ans.op {s : Sem Value} (a : Ans T P ρ h w K s) : OpAns T P ρ h w K false (do pure (.value (← s))) := by
  obtain ⟨v, k, σ, u, x, h1, h2, h3, h4⟩ := a
  exact ⟨v, k, σ, u, h1, ⟨h2, fun h => by cases h⟩, .inl ⟨x, h3, by simp [h4]⟩⟩
theorem AnsQ.op {q : Bool} {s : Sem Value} (a : AnsQ T P ρ h w K s) : OpAns T P ρ h w K q (do pure (.value (← s))) := by
  obtain ⟨g, v, x, h1, h3, h4⟩ := a
  exact ⟨v, h, ρ, w, h1, ⟨.refl g, fun _ => ⟨rfl, rfl, rfl⟩⟩, .inl ⟨x, h3, by simp [h4]⟩⟩
/-- one that only looks -/
def quietB : Builtin → Bool
  | .len | .cap | .min | .max | .unsafeSliceData => true
  | _ => false
def quietC : Callee → Bool
  | .builtin b => quietB b
  | _ => false
def quiet (P : Program) : Op → Bool
  | .pick .. | .build .. | .nilCheck _ | .binOp .. | .unOp .. | .sliceToArrayPointer .. | .makeInterface .. | .makeFunc .. | .slice .. | .fieldAddr .. | .field .. | .indexAddr .. | .index .. | .extract .. | .load .. | .lookup .. | .entry _ => true
  | .convert _ d _ => match P.underlying d with
    | some (.slice _) => false
    | _ => true
  | .call c => quietC c.callee
  | _ => false
theorem unit_op {s : Sem Unit} (a : ∃ k u, K .un k = .yes ∧ Post T ρ h w ρ k u ∧ s.run P w = .ok () u) : OpAns T P ρ h w K false (do s; pure .skip) := by
  obtain ⟨k, u, h1, h2, h3⟩ := a
  exact ⟨.un, k, ρ, u, h1, ⟨h2, fun h => by cases h⟩, .inr ⟨rfl, by simp [h3]⟩⟩
def zcl (P : Program) (t : TypeId) : Option CV :=
  match zrOf P t with
  | some z => some (cvL 1000 z.cells.toList)
  | none => none
theorem zcl_inv {t : TypeId} {c : CV} (e : zcl P t = some c) : ∃ z, zrOf P t = some z ∧ AL ρ c.exp z.cells.toList ∧ c.wf := by
  unfold zcl at e
  split at e
  · rename_i z hz
    cases e
    exact ⟨z, hz, (cvL_ok _ _).1, (cvL_ok (ρ := ρ) _ _).2⟩
  · cases e
def keyQ (P : Program) (kt : TypeId) : Option Kq :=
  match P.underlying kt with
  | some (.int _) => some keyI | some .string => some keyS | some .bool => some keyB | _ => none
theorem keyQ_inv {kt : TypeId} {q : Kq} (e : keyQ P kt = some q) : ∃ d, P.underlying kt = some d ∧ QK d q := by
  unfold keyQ at e
  split at e
  · rename_i k hu; cases e; exact ⟨_, hu, .int k⟩
  · rename_i hu; cases e; exact ⟨_, hu, .str⟩
  · rename_i hu; cases e; exact ⟨_, hu, .bool⟩
  · cases e
def kOf (P : Program) (oo : Operand → EO) (o : Op) : Option KF :=
  match o with
  | .pick c a b => some (kPick (oo c) (oo a) (oo b))
  | .alloc t => match zcl P t with | some z => some (kAlloc z t) | none => none
  | .box t v => some (kBox t (oo v))
  | .load t a => match P.underlying t with
    | some d => match TypeDesc.ag d, szOf P t with
      | true, some n => some (kLdn n (oo a))
      | false, _ => some (kLd1 (oo a))
      | _, _ => none
    | none => none
  | .store t a v => match szOf P t with | some n => some (kSt n (oo a) (oo v)) | none => none
  | .unOp op _ a => some (kUn op (oo a))
  | .extract t i => some (kExt (oo t) i)
  | .makeInterface t v => match P.underlying t with
    | some (.interface _) => none
    | some _ => some (kMkit t (oo v))
    | none => none
  | .makeMap _ none => some kMkmap
  | .sliceToArrayPointer t v => match P.underlying t with | some (.array n _) => some (kS2ap n (oo v)) | _ => none
  | .fieldAddr t v f => match P.underlying t with
    | some (.struct fs) => match fs[f]? with
      | some fd => match szOf P fd.type with
        | some (n + 1) => some (kFa fd.offset (oo v))
        | _ => none
      | none => none
    | _ => none
  | .field t v f => match P.underlying t with
    | some (.struct fs) => match fs[f]? with
      | some fd => match szOf P fd.type, P.underlying fd.type with
        | some n, some d => some (kFld fd.offset n (TypeDesc.ag d) (oo v))
        | _, _ => none
      | none => none
    | _ => none
  | .indexAddr t v i => match P.underlying t with
    | some (.array n el) => match szOf P el with | some m => some (kIa n m (oo v) (oo i)) | none => none
    | some (.slice el) => match szOf P el with | some m => some (kIsl m (oo v) (oo i)) | none => none
    | _ => none
  | .index t v i => match P.underlying t with
    | some (.array n el) => match szOf P el, P.underlying el with | some m, some d => some (kIxa n m (TypeDesc.ag d) (oo v) (oo i)) | _, _ => none
    | some .string => some (kIxs (oo v) (oo i))
    | _ => none
  | .lookup t m k ok => match P.underlying t with
    | some (.map kt el) => match keyQ P kt, zrOf P el with | some q, some z => some (kLk q (cvV 1000 z) ok (oo m) (oo k)) | _, _ => none
    | _ => none
  | .mapUpdate t m k v => match P.underlying t with
    | some (.map kt el) => match keyQ P kt with | some q => some (kMu q (oo m) (oo k) (oo v)) | none => none
    | _ => none
  | .insert t m k v => match P.underlying t with
    | some (.map kt el) => match keyQ P kt with | some q => some (kMu q (oo m) (oo k) (oo v)) | none => none
    | _ => none
  | .mapEntry t m k => match P.underlying t with
    | some (.map kt el) => match keyQ P kt, zrOf P el with | some q, some z => some (kMe q (cvV 1000 z) (oo m) (oo k)) | _, _ => none
    | _ => none
  | .entryStore _ m s v => some (kEs (oo m) (oo s) (oo v))
  | .range t v => match P.underlying t with | some (.map _ _) => some (kRng (oo v)) | _ => none
  | .next it false => some (kNxt (oo it))
  | .entry it => some (kEnt (oo it))
  | _ => none
theorem op_ok {oo : Operand → EO} {ro : Operand → Value} {cl : Cl} (g : Good T ρ h w) (hr : ∀ x, VR ρ (rd l e (oo x)) (ro x)) {dst : Option Tmp} {op : Op} {ty : TypeId} {pos : String} {after : Array Edge} {gd : Option (Nat × Bool)} {k : KF}
    (hk : kOf P oo op = some k) (hy : k cl l e h K = .yes) : OpAns T P ρ h w K (quiet P op) (execOp ro ⟨dst, op, ty, pos, after, gd⟩) := by
  unfold kOf at hk
  split at hk
  · rename_i c a b
    cases hk
    have hy : vPick l e h K (oo a) (oo b) (rd l e (oo c)) = .yes := hy
    have hc := hr c
    unfold vPick at hy
    split at hy
    · rename_i b' hb'
      rw [hb'] at hc
      generalize hx : ro c = x at hc
      cases hc
      rw [bf_if] at hy
      cases b' with
      | true => exact ⟨_, _, ρ, w, hy, ⟨.refl g, fun _ => ⟨rfl, rfl, rfl⟩⟩, .inl ⟨_, hr a, by simp [execOp, asBool, hx]⟩⟩
      | false => exact ⟨_, _, ρ, w, hy, ⟨.refl g, fun _ => ⟨rfl, rfl, rfl⟩⟩, .inl ⟨_, hr b, by simp [execOp, asBool, hx]⟩⟩
    · exact no_yes hy
  · split at hk
    · rename_i hz; cases hk
      obtain ⟨z, hz, ha, hw⟩ := zcl_inv (ρ := ρ) hz
      exact Ans.op (a_alloc g hy hz ha hw)
    · cases hk
  · cases hk; exact Ans.op (a_box g (hr _) hy)
  · split at hk
    · rename_i hu
      split at hk
      · rename_i hd hs; cases hk; exact AnsQ.op (a_ldn g (hr _) hy hu hd hs)
      · rename_i hd; cases hk; exact AnsQ.op (a_ld1 g (hr _) hy hu hd)
      · cases hk
    · cases hk
  · split at hk
    · rename_i hs; cases hk; exact unit_op (a_st g (hr _) (hr _) hy hs)
    · cases hk
  · cases hk; exact AnsQ.op (a_un g (hr _) hy)
  · cases hk; exact AnsQ.op (a_ext g (hr _) hy)
  · split at hk
    · cases hk
    · rename_i hu hd; cases hk; exact AnsQ.op (a_mkit g (hr _) hy hd (fun ms e => hu ms (by rw [← e])))
    · cases hk
  · cases hk; exact Ans.op (a_mkmap g hy (.inl rfl))
  · split at hk
    · rename_i hu; cases hk; exact AnsQ.op (a_s2ap g (hr _) hy hu)
    · cases hk
  · split at hk
    · rename_i ht
      split at hk
      · rename_i hf
        split at hk
        · rename_i hs; cases hk; exact AnsQ.op (a_fa g (hr _) hy ht hf rfl hs (by omega))
        · cases hk
      · cases hk
    · cases hk
  · split at hk
    · rename_i ht
      split at hk
      · rename_i hf
        split at hk
        · rename_i hs hd; cases hk; exact AnsQ.op (a_fld g (hr _) hy ht hf rfl hd rfl hs)
        · cases hk
      · cases hk
    · cases hk
  · split at hk
    · rename_i ht
      split at hk
      · rename_i hs; cases hk; exact AnsQ.op (a_ia g (hr _) (hr _) hy ht hs)
      · cases hk
    · rename_i ht
      split at hk
      · rename_i hs; cases hk; exact AnsQ.op (a_isl g (hr _) (hr _) hy ht hs)
      · cases hk
    · cases hk
  · split at hk
    · rename_i ht
      split at hk
      · rename_i hs hd; cases hk; exact AnsQ.op (a_ixa g (hr _) (hr _) hy ht hs hd rfl)
      · cases hk
    · rename_i ht; cases hk; exact AnsQ.op (a_ixs g (hr _) (hr _) hy ht)
    · cases hk
  · split at hk
    · rename_i ht
      split at hk
      · rename_i hq hz; cases hk
        obtain ⟨d, hd, hq⟩ := keyQ_inv hq
        exact AnsQ.op (a_lk g hq (hr _) (hr _) ht hd hz (cvV_ok _ _) hy)
      · cases hk
    · cases hk
  · split at hk
    · rename_i ht
      split at hk
      · rename_i hq; cases hk
        obtain ⟨d, hd, hq⟩ := keyQ_inv hq
        exact unit_op (a_mu g hq (hr _) (hr _) (hr _) ht hd hy)
      · cases hk
    · cases hk
  · split at hk
    · rename_i ht
      split at hk
      · rename_i hq; cases hk
        obtain ⟨d, hd, hq⟩ := keyQ_inv hq
        exact unit_op (a_mu g hq (hr _) (hr _) (hr _) ht hd hy)
      · cases hk
    · cases hk
  · split at hk
    · rename_i ht
      split at hk
      · rename_i hq hz; cases hk
        obtain ⟨d, hd, hq⟩ := keyQ_inv hq
        exact Ans.op (a_me g hq (hr _) (hr _) ht hd hz (cvV_ok _ _) hy)
      · cases hk
    · cases hk
  · cases hk; exact unit_op (a_es g (hr _) (hr _) (hr _) hy)
  · split at hk
    · rename_i ht; cases hk; exact Ans.op (a_rng g (hr _) ht hy)
    · cases hk
  · cases hk; exact Ans.op (a_nxt g (hr _) hy)
  · cases hk; exact AnsQ.op (a_ent g (hr _) hy)
  · cases hk
end
end
end Ev
namespace Ev
noncomputable section
open Go
section
variable {T : Tb} {ρ : Rho} {h : HP} {w : World} {K : Kv} {P : Program} {l : LS} {e : Tr AV}

def eqK (P : Program) (t : TypeId) (x y : Operand) : Option (AV → AV → Option Bool) :=
  match P.underlying t with
  | some (.int _) => some eqI
  | some .string => some eqI
  | some .bool => some eqB
  | some (.pointer el) => match szOf P el with | some (_ + 1) => some eqP | _ => none
  | some (.slice _) => some eqL
  | some (.map _ _) => some eqM
  | some (.chan _ _) => some eqC
  | some (.func _ _ _) => some eqF
  | some (.interface _) => bif Operand.isK x || Operand.isK y then some eqN else none
  | some (.struct fs) => match fksOf2 P fs.toList 0 with
    | some ks => bif P.stoodInHeld t || P.eqGuardType P.depth t then none else some (eqSt ks)
    | none => none
  | _ => none
def kOf2 (P : Program) (oo : Operand → EO) (o : Op) : Option KF :=
  match o with
  | .nilCheck v => some (kNil (oo v))
  | .binOp op t a b _ => match op with
    | .eql => match eqK P t a b with | some f => some (kEq f false (oo a) (oo b)) | none => none
    | .neq => match eqK P t a b with | some f => some (kEq f true (oo a) (oo b)) | none => none
    | .add => some (kAdd (oo a) (oo b))
    | .sub => some (kSub (oo a) (oo b))
    | .lss => some (kLss (oo a) (oo b))
    | .andNot => none
    | op => some (kBin op (oo a) (oo b))
  | .convert a b v => match P.underlying a, P.underlying b with
    | some _, some (.int k) => some (kCvi k (oo v))
    | some .string, some (.slice el) => match P.underlying el with | some (.int .u8) => some (kS2b el (oo v)) | _ => none
    | some (.slice el), some .string => match P.underlying el with | some (.int .u8) => some (kB2s (oo v)) | _ => none
    | some .string, some .string => some (kCvs (oo v))
    | _, _ => none
  | .makeMap t (some x) => match P.underlying t with | some (.map _ _) => some (kMkr (oo x)) | _ => none
  | .makeChan t v => match P.underlying t with
    | some (.chan _ el) => match P.info? el with
      | some i => bif Nat.ble i.bytes 1000 then some (kChan (oo v)) else none
      | none => none
    | _ => none
  | .makeSlice t a b => match P.underlying t with
    | some (.slice el) => match P.info? el with
      | some i => match i.zero with
        | some z => bif Nat.ble i.bytes 100000 && (Nat.beq z.cells.size i.size && Nat.ble 1 i.size) then some (kMksl el i.size (cvL 1000 z.cells.toList) (oo a) (oo b)) else none
        | none => none
      | none => none
    | _ => none
  | .slice t v lo hi mx => bif mx.isSome && !hi.isSome then none else match P.underlying t with
    | some .string => bif mx.isSome then none else some (kSls (oo v) (lo.map oo) (hi.map oo))
    | some (.array n el) => match szOf P el with | some m => some (kSla n m (oo v) (lo.map oo) (hi.map oo) (mx.map oo)) | none => none
    | some (.slice el) => match szOf P el with | some m => some (kSlc m (oo v) (lo.map oo) (hi.map oo) (mx.map oo)) | none => none
    | some (.pointer u) => match P.underlying u with
      | some (.array n el) => match szOf P el with | some m => some (kSla n m (oo v) (lo.map oo) (hi.map oo) (mx.map oo)) | none => none
      | _ => none
    | _ => none
  | .makeFunc (.func f) a b => bif Nat.ble f 1000000 then some (kMkfn (Ps.of f) (a.toList.map oo) (b.toList.map oo)) else none
  | o => kOf P oo o
theorem eq_ok (g : Good T ρ h w) {v u : AV} {x y : Value} (hv : VR ρ v x) (hu : VR ρ u y) {neg : Bool} {t : TypeId} {xo yo : Operand} {f : AV → AV → Option Bool} (hf : eqK P t xo yo = some f)
    (hk : oko h K (bNg neg (f v u)) = .yes) : AnsQ T P ρ h w K (do eqGuard (eqOp neg) t xo yo x y; binOp (eqOp neg) t x y) := by
  unfold eqK at hf
  split at hf
  · cases hf; exact a_eqI g hv hu hk
  · cases hf; exact a_eqI g hv hu hk
  · rename_i ht; cases hf; exact a_eqB g hv hu hk ht
  · rename_i ht
    split at hf
    · rename_i hs; cases hf; exact a_eqP g hv hu hk ht hs (Nat.succ_ne_zero _)
    · cases hf
  · rename_i ht; cases hf; exact a_eqL g hv hu hk ht
  · rename_i ht; cases hf; exact a_eqM g hv hu hk ht
  · rename_i ht; cases hf; exact a_eqC g hv hu hk ht
  · rename_i ht; cases hf; exact a_eqF g hv hu hk ht
  · rename_i ht
    cases hc : (Operand.isK xo || Operand.isK yo) with
    | true => rw [hc] at hf; cases hf; exact a_eqN g hv hu hk ht hc
    | false => rw [hc] at hf; cases hf
  · rename_i ht
    split at hf
    · rename_i ks hks
      cases hc : (P.stoodInHeld t || P.eqGuardType P.depth t) with
      | true => rw [hc] at hf; cases hf
      | false =>
        rw [hc] at hf; cases hf
        simp only [Bool.or_eq_false_iff] at hc
        exact a_eqS g hv hu hk ht hks hc.1 hc.2
    · cases hf
  · cases hf
theorem ob_map {oo : Operand → EO} {ro : Operand → Value} (hr : ∀ x, VR ρ (rd l e (oo x)) (ro x)) (o : Option Operand) : OB ρ l e (o.map oo) (o.map ro) := by
  cases o with
  | none => trivial
  | some x => exact hr x
theorem rds_map {oo : Operand → EO} {ro : Operand → Value} (hr : ∀ x, VR ρ (rd l e (oo x)) (ro x)) : ∀ xs : List Operand, AL ρ (rds l e (xs.map oo)).exp (xs.map ro) ∧ (rds l e (xs.map oo)).wf
  | [] => ⟨.nil, trivial⟩
  | x :: xs => ⟨.cons (hr x) (rds_map hr xs).1, (rds_map hr xs).2⟩
theorem op_ok2 {oo : Operand → EO} {ro : Operand → Value} {cl : Cl} (g : Good T ρ h w) (hr : ∀ x, VR ρ (rd l e (oo x)) (ro x)) {dst : Option Tmp} {op : Op} {ty : TypeId} {pos : String} {after : Array Edge} {gd : Option (Nat × Bool)} {k : KF}
    (hk : kOf2 P oo op = some k) (hy : k cl l e h K = .yes) : OpAns T P ρ h w K (quiet P op) (execOp ro ⟨dst, op, ty, pos, after, gd⟩) := by
  unfold kOf2 at hk
  split at hk
  · rename_i v
    cases hk
    obtain ⟨hk', h1, h2, h3, h4, h5⟩ := vNil_inv hy
    have hv := hr v
    refine ⟨_, _, ρ, w, hk', ⟨.refl g, fun _ => ⟨rfl, rfl, rfl⟩⟩, .inl ⟨_, hr v, ?_⟩⟩
    simp only [execOp]
    generalize ro v = x at hv
    generalize rd l e (oo v) = u at hv h1 h2 h3 h4 h5
    cases hv <;> first | exact absurd rfl h1 | exact absurd rfl h2 | exact absurd rfl h3 | exact absurd rfl h4 | exact absurd rfl h5 | rfl
  · rename_i op t a b _
    split at hk
    · split at hk
      · rename_i hf; cases hk; exact AnsQ.op (eq_ok (neg := false) g (hr _) (hr _) hf hy)
      · cases hk
    · split at hk
      · rename_i hf; cases hk; exact AnsQ.op (eq_ok (neg := true) g (hr _) (hr _) hf hy)
      · cases hk
    · cases hk; exact AnsQ.op (a_add g (hr _) (hr _) hy)
    · cases hk; exact AnsQ.op (a_bin (op := .sub) g rfl (by simp) (hr _) (hr _) hy)
    · cases hk; exact AnsQ.op (a_bin (op := .lss) g rfl (by simp) (hr _) (hr _) hy)
    · cases hk
    · rename_i h1 h2 h3 h4 h5 h6
      cases hk
      exact AnsQ.op (a_bin g (by cases op <;> first | rfl | (exact absurd rfl h1) | (exact absurd rfl h2)) h6 (hr _) (hr _) hy)
  · split at hk
    · rename_i hs hd; cases hk; exact AnsQ.op (a_cvi g (hr _) hy hs hd)
    · rename_i hs hd
      split at hk
      · rename_i he; cases hk; (rw [show ∀ x y z, P.underlying y = some (.slice _) → quiet P (.convert x y z) = false from fun x y z e => by simp [quiet, e]]; exact Ans.op (a_s2b g (hr _) hy hs hd he)); exact hd
      · cases hk
    · rename_i v _ _ _ hs hd
      split at hk
      · rename_i he; cases hk
        have hv := hr v
        have hy : okD (rd l e (oo v)) (cells? h 1 (fun c => vStr h K c.bytes) (rd l e (oo v))) = .yes := hy
        refine AnsQ.op (a_b2s g hv (fun s es => ?_) (by unfold okD at hy; split at hy <;> first | exact hy | cases hy) hs hd he)
        rw [es] at hv
        generalize rd l e (oo v) = u at hy hv
        cases hv <;> cases hy
      · cases hk
    · rename_i v _ _ hs hd
      cases hk
      have hy : vCvs h K (rd l e (oo v)) = .yes := hy
      have hv := hr v
      unfold vCvs at hy
      split at hy
      · rename_i hvv
        rw [hvv] at hv
        exact AnsQ.op (a_cvs g hv rfl hy hs hd)
      · exact no_yes hy
    · cases hk
  · split at hk
    · rename_i x _ _ _ ht
      cases hk
      have hy : nat (rd l e (oo x)) (fun _ => K (.mp h.nx) (h.new (.map [] 0))) = .yes := hy
      obtain ⟨k, m, hx, hy⟩ := nat_inv hy
      have hv := hr x
      rw [hx] at hv
      simp only [execOp, Option.map_some]
      generalize ro x = y at hv
      cases hv
      exact Ans.op (a_mkmap g hy (.inr ⟨_, _, _, _, rfl, ht⟩))
    · cases hk
  · split at hk
    · rename_i ht
      split at hk
      · rename_i i hi
        cases hb : Nat.ble i.bytes 1000 with
        | true => rw [hb] at hk; cases hk; exact Ans.op (a_chan g (hr _) hy ht hi (by simpa using hb))
        | false => rw [hb] at hk; cases hk
      · cases hk
    · cases hk
  · split at hk
    · rename_i ht
      split at hk
      · rename_i i hi
        split at hk
        · rename_i z hz
          cases hb : (Nat.ble i.bytes 100000 && (Nat.beq z.cells.size i.size && Nat.ble 1 i.size)) with
          | true =>
            rw [hb] at hk; cases hk
            simp only [Bool.and_eq_true, Nat.ble_eq, Nat.beq_eq] at hb
            exact Ans.op (a_mksl g (hr _) (hr _) hy ht hi hb.1 rfl hz hb.2.1 hb.2.2 (cvL_ok _ _).1 (cvL_ok (ρ := ρ) _ _).2)
          | false => rw [hb] at hk; cases hk
        · cases hk
      · cases hk
    · cases hk
  · rename_i t v lo hi mx
    cases hb : (mx.isSome && !hi.isSome) with
    | true => rw [hb] at hk; cases hk
    | false =>
      rw [hb] at hk
      have hmh : (mx.map ro).isSome = true → (hi.map ro).isSome = true := by cases mx <;> cases hi <;> simp_all
      simp only [cond_false] at hk
      split at hk
      · rename_i ht
        cases hm : mx.isSome with
        | true => rw [hm] at hk; cases hk
        | false =>
          rw [hm] at hk; cases hk
          cases mx with
          | some _ => cases hm
          | none => exact AnsQ.op (a_sls g (hr _) (ob_map hr lo) (ob_map hr hi) hy ht)
      · rename_i ht
        split at hk
        · rename_i hs; cases hk; exact AnsQ.op (a_sla g (hr _) (ob_map hr lo) (ob_map hr hi) (ob_map hr mx) hmh hy hs (.inl ht))
        · cases hk
      · rename_i ht
        split at hk
        · rename_i hs; cases hk; exact AnsQ.op (a_slc g (hr _) (ob_map hr lo) (ob_map hr hi) (ob_map hr mx) hmh hy hs ht)
        · cases hk
      · rename_i ht
        split at hk
        · rename_i hu
          split at hk
          · rename_i hs; cases hk; exact AnsQ.op (a_sla g (hr _) (ob_map hr lo) (ob_map hr hi) (ob_map hr mx) hmh hy hs (.inr ⟨_, ht, hu⟩))
          · cases hk
        · cases hk
      · cases hk
  · rename_i f a b
    cases hb : Nat.ble f 1000000 with
    | false => rw [hb] at hk; cases hk
    | true =>
      rw [hb] at hk; cases hk
      have hf : ∀ n : Nat, Nat.ble n 1000000 = true → n + 1 < 2 ^ 40 := fun n hn => by have := Nat.le_of_ble_eq_true hn; omega
      have h1 := rds_map hr a.toList
      have h2 := rds_map hr b.toList
      have hv := VR.fn (ρ := ρ) (f := Ps.of f) (xs := a.map ro) (ys := b.map ro) (by simpa using h1.1) (by simpa using h2.1) h1.2 h2.2
      rw [Ps.of_idx (n := f) (hf f hb)] at hv
      exact ⟨_, _, ρ, w, hy, ⟨.refl g, fun _ => ⟨rfl, rfl, rfl⟩⟩, .inl ⟨_, hv, rfl⟩⟩
  · exact op_ok g hr hk hy
end
end
end Ev
namespace Ev
noncomputable section
open Go
section
variable {T : Tb} {ρ : Rho} {h : HP} {w : World} {K : Kv} {P : Program} {l : LS} {e : Tr AV}

/-- a builtin's code -/
def bOf (P : Program) (oo : Operand → EO) (b : Builtin) (ts : List TypeId) (xs : List Operand) : Option KF :=
  match b, ts, xs with
  | .append, t :: u :: _, [a, v] => match P.underlying t, P.underlying u with
    | _, some (.int _) => none
    | some (.slice el), some _ => match P.info? el with
      | some i => match i.zero with
        | some z => bif Nat.ble i.bytes 100000 && (Nat.ble 1 i.bytes && Nat.beq z.cells.size i.size) then some (kApp el i.size (oo a) (oo v)) else none
        | none => none
      | none => none
    | _, _ => none
  | .cap, t :: _, [v] => match P.underlying t with | some (.slice _) => some (kCap (oo v)) | _ => none
  | .len, t :: _, [v] => match P.underlying t with
    | some (.array n _) => some (kLenA n)
    | some (.pointer a) => match P.underlying a with | some (.array n _) => some (kLenA n) | _ => none
    | some .string => some (kLenS (oo v))
    | some (.slice _) => some (kLenL (oo v))
    | some (.map _ _) => some (kLenM (oo v))
    | some (.chan _ _) => some (kLenC (oo v))
    | _ => none
  | .copy, t :: _, [d, v] => match P.underlying t with
    | some (.slice el) => match szOf P el with | some m => some (kCopy m (oo d) (oo v)) | none => none
    | _ => none
  | .delete, t :: _, [m, k] => match P.underlying t with
    | some (.map kt _) => match keyQ P kt with | some q => some (kDel q (oo m) (oo k)) | none => none
    | _ => none
  | .clear, t :: _, [v] => match P.underlying t with
    | some (.map _ _) => some (kClrm (oo v))
    | some (.slice el) => match zrOf P el with
      | some z => bif Nat.ble 1 z.cells.size then some (kClrs z.cells.size (cvL 1000 z.cells.toList) (oo v)) else none
      | none => none
    | _ => none
  | .min, _, [a, b] => some (kMnx false (oo a) (oo b))
  | .max, _, [a, b] => some (kMnx true (oo a) (oo b))
  | .unsafeSliceData, _, [v] => some (kUsd (oo v))
  | _, _, _ => none
theorem okS_inv {m : Nat} {v : AV} {x : Value} {r : R} (hv : VR ρ v x) (hk : okS m v r = .yes) : r = .yes ∧ v ≠ .mn ∧ v ≠ .cn ∧ ((∃ d, x = .string d) → m = 1) := by
  unfold okS at hk
  split at hk
  · exact ⟨hk, by simp, by simp, fun ⟨d, e⟩ => by rw [e] at hv; cases hv⟩
  · exact ⟨hk, by simp, by simp, fun ⟨d, e⟩ => by rw [e] at hv; cases hv⟩
  · exact ⟨hk, by simp, by simp, fun ⟨d, e⟩ => by rw [e] at hv; cases hv⟩
  · obtain ⟨h1, h2⟩ := bf_yes' hk
    exact ⟨h2, by simp, by simp, fun _ => by simpa using h1⟩
  · cases hk
theorem okD_inv {v : AV} {x : Value} {r : R} (hv : VR ρ v x) (hk : okD v r = .yes) : r = .yes ∧ v ≠ .mn ∧ v ≠ .cn ∧ ∀ d, x ≠ .string d := by
  unfold okD at hk
  split at hk
  · exact ⟨hk, by simp, by simp, fun d e => by rw [e] at hv; cases hv⟩
  · exact ⟨hk, by simp, by simp, fun d e => by rw [e] at hv; cases hv⟩
  · exact ⟨hk, by simp, by simp, fun d e => by rw [e] at hv; cases hv⟩
  · cases hk
theorem b_ok {oo : Operand → EO} {ro : Operand → Value} {cl : Cl} (g : Good T ρ h w) (hr : ∀ x, VR ρ (rd l e (oo x)) (ro x)) {b : Builtin} {ts : List TypeId} {xs : List Operand} {ty : TypeId} {cs : Array Bool} {k : KF}
    (hk : bOf P oo b ts xs = some k) (hy : k cl l e h K = .yes) : OpAns T P ρ h w K (quietB b) (builtin b ts.toArray ty cs (xs.map ro).toArray) := by
  unfold bOf at hk
  split at hk
  · rename_i t u r a v
    split at hk
    · cases hk
    · rename_i hu1 hnu hu
      split at hk
      · rename_i i hi
        split at hk
        · rename_i z hz
          cases hb : (Nat.ble i.bytes 100000 && (Nat.ble 1 i.bytes && Nat.beq z.cells.size i.size)) with
          | true =>
            rw [hb] at hk; cases hk
            simp only [Bool.and_eq_true, Nat.ble_eq, Nat.beq_eq] at hb
            obtain ⟨hy, hm, hc, hm1⟩ := okS_inv (hr v) hy
            exact Ans.op (a_app g (hr a) (hr v) rfl rfl hnu hu (fun k e => hu1 k e) hi rfl hb.1 (by omega) hz hb.2.2 hm1 hm hc hy)
          | false => rw [hb] at hk; cases hk
        · cases hk
      · cases hk
    · cases hk
  · split at hk
    · rename_i hu; cases hk; exact AnsQ.op (a_cap g (hr _) hy rfl rfl hu)
    · cases hk
  · split at hk
    · rename_i hu; cases hk; exact AnsQ.op (a_lenA g hy rfl rfl (.inl ⟨_, hu⟩))
    · rename_i hu
      split at hk
      · rename_i hu2; cases hk; exact AnsQ.op (a_lenA g hy rfl rfl (.inr ⟨_, _, hu, hu2⟩))
      · cases hk
    · rename_i hu; cases hk; exact AnsQ.op (a_lenS g (hr _) hy rfl rfl hu)
    · rename_i hu; cases hk; exact AnsQ.op (a_lenL g (hr _) hy rfl rfl hu)
    · rename_i hu; cases hk; exact AnsQ.op (a_lenM g (hr _) hy rfl rfl hu)
    · rename_i hu; cases hk; exact AnsQ.op (a_lenC g (hr _) hy rfl rfl hu)
    · cases hk
  · split at hk
    · rename_i hu
      split at hk
      · rename_i hs; cases hk
        obtain ⟨hy, hm, hc, hm1⟩ := okS_inv (hr _) hy
        obtain ⟨hy, hum, huc, hus⟩ := okD_inv (hr _) hy
        exact Ans.op (a_copy g (hr _) (hr _) rfl hu hs hm1 hm hc hy hum huc hus)
      · cases hk
    · cases hk
  · split at hk
    · rename_i hu
      split at hk
      · rename_i hq; cases hk
        obtain ⟨d, hd, hq⟩ := keyQ_inv hq
        exact Ans.op (a_del g hq (hr _) (hr _) rfl hu hd hy)
      · cases hk
    · cases hk
  · split at hk
    · rename_i hu; cases hk; exact Ans.op (a_clrm g (hr _) rfl hu hy)
    · rename_i hu
      split at hk
      · rename_i z hz
        cases hb : Nat.ble 1 z.cells.size with
        | true => rw [hb] at hk; cases hk; exact Ans.op (a_clrs g (hr _) rfl hu hz rfl (Nat.le_of_ble_eq_true hb) (cvL_ok _ _).1 (cvL_ok (ρ := ρ) _ _).2 hy)
        | false => rw [hb] at hk; cases hk
      · cases hk
    · cases hk
  · cases hk; exact AnsQ.op (s := Builtin.min_ _ ty #[ro _, ro _]) (a_mnx (mx := false) (ts := #[]) (ty := ty) g (hr _) (hr _) hy)
  · cases hk; exact AnsQ.op (s := Builtin.max_ _ ty #[ro _, ro _]) (a_mnx (mx := true) (ts := #[]) (ty := ty) g (hr _) (hr _) hy)
  · cases hk; exact AnsQ.op (a_usd g (hr _) hy)
  · cases hk
end
end
end Ev
namespace Ev
noncomputable section
open Go
section
variable {T : Tb} {ρ : Rho} {h : HP} {w : World} {K : Kv} {P : Program} {l : LS} {e : Tr AV}

def ptOf (oo : Operand → EO) (pl : Nat → Option (Nat × Nat)) : List (Nat × Operand) → Option Pt
  | [] => some []
  | (i, x) :: r => match pl i, ptOf oo pl r with
    | some (a, b), some ps => some ((a, b, oo x) :: ps)
    | _, _ => none
theorem ptOf_ok {oo : Operand → EO} {ro : Operand → Value} (hr : ∀ x, VR ρ (rd l e (oo x)) (ro x)) {pl : Nat → Option (Nat × Nat)} : ∀ {xs : List (Nat × Operand)} {ps : Pt}, ptOf oo pl xs = some ps →
    PL ρ l e pl ps (xs.map fun (i, x) => (i, ro x))
  | [], ps, hp => by cases hp; exact .nil
  | (i, x) :: r, ps, hp => by
    unfold ptOf at hp
    split at hp
    · rename_i h1 h2; cases hp; exact .cons h1 (hr x) (ptOf_ok hr h2)
    · cases hp
def buildOf (P : Program) (oo : Operand → EO) (t : TypeId) (xs : List (Nat × Operand)) : Option KF :=
  match zcl P t, P.underlying t with
  | some z, some (.struct fs) => match fs.toList.mapM (fun f => (P.info? f.type).map fun i => (f.offset, i.size)) with
    | some pl => match ptOf oo (fun i => pl[i]?) xs with | some ps => some (kBuild z ps) | none => none
    | none => none
  | some z, some (.array _ el) => match szOf P el with
    | some m => match ptOf oo (fun i => some (Nat.mul i m, m)) xs with | some ps => some (kBuild z ps) | none => none
    | none => none
  | _, _ => none
def bslOf (P : Program) (oo : Operand → EO) (t : TypeId) (n : Nat) (xs : List (Nat × Operand)) : Option KF :=
  match P.underlying t with
  | some (.slice el) => match szOf P el, zrOf P el with
    | some m, some zv => match ptOf oo (fun i => some (Nat.mul i m, m)) xs with
      | some ps => bif Nat.ble (Nat.mul n m) 16777216 && Nat.beq zv.cells.size m then
          some (kBsl el m n (cvL 100000 ((Array.range (n * m)).map (zv.cells[· % zv.cells.size]!)).toList) ps) else none
      | none => none
    | _, _ => none
  | _ => none
theorem build_ok {oo : Operand → EO} {ro : Operand → Value} {cl : Cl} (g : Good T ρ h w) (hr : ∀ x, VR ρ (rd l e (oo x)) (ro x)) {t : TypeId} {xs : Array (Nat × Operand)} {k : KF}
    (hk : buildOf P oo t xs.toList = some k) (hy : k cl l e h K = .yes) : AnsQ T P ρ h w K (Instr.build t (xs.map fun (i, x) => (i, ro x))) := by
  unfold buildOf at hk
  split at hk
  · rename_i fs hz hu
    obtain ⟨zv, hz, ha, hw⟩ := zcl_inv (ρ := ρ) hz
    split at hk
    · rename_i pl hp
      split at hk
      · rename_i ps hps
        cases hk
        have hps := ptOf_ok hr hps
        refine a_build g hy hz ha hw (place := fun i => pl.toArray[i]?) (by simpa using hps) (.inr ⟨fs, pl.toArray, hu, ?_, rfl⟩)
        have := run_places (P := P) w _ _ hp
        simp [Array.mapM_eq_mapM_toList, this]
      · cases hk
    · cases hk
  · rename_i hz hu
    obtain ⟨zv, hz, ha, hw⟩ := zcl_inv (ρ := ρ) hz
    split at hk
    · rename_i m hm
      split at hk
      · rename_i ps hps
        cases hk
        have hps := ptOf_ok hr hps
        exact a_build g hy hz ha hw (place := fun i => some (i * m, m)) (by simpa using hps) (.inl ⟨_, _, m, hu, hm, rfl⟩)
      · cases hk
    · cases hk
  · cases hk
theorem bsl_ok {oo : Operand → EO} {ro : Operand → Value} {cl : Cl} (g : Good T ρ h w) (hr : ∀ x, VR ρ (rd l e (oo x)) (ro x)) {t : TypeId} {n : Nat} {xs : Array (Nat × Operand)} {k : KF}
    (hk : bslOf P oo t n xs.toList = some k) (hy : k cl l e h K = .yes) : Ans T P ρ h w K (Instr.buildSlice t n (xs.map fun (i, x) => (i, ro x))) := by
  unfold bslOf at hk
  split at hk
  · rename_i el hu
    split at hk
    · rename_i m zv hm hz
      split at hk
      · rename_i ps hps
        cases hb : (Nat.ble (Nat.mul n m) 16777216 && Nat.beq zv.cells.size m) with
        | true =>
          rw [hb] at hk; cases hk
          simp only [Bool.and_eq_true, Nat.beq_eq] at hb
          have hps := ptOf_ok hr hps
          exact a_bsl g hy hu hm (Nat.le_of_ble_eq_true hb.1) hz hb.2 (cvL_ok _ _).1 (cvL_ok (ρ := ρ) _ _).2 (by simpa using hps)
        | false => rw [hb] at hk; cases hk
      · cases hk
    · cases hk
  · cases hk
/-- the code of an operation that is no call, no message, no defer -/
def oBad : Option KF → KF
  | some k => k
  | none => kBad
def kF (P : Program) (oo : Operand → EO) (o : Op) : KF :=
  match o with
  | .call c => match c.callee with
    | .builtin b => oBad (bOf P oo b c.argTypes.toList c.args.toList)
    | _ => kBad
  | .build t xs => oBad (buildOf P oo t xs.toList)
  | .buildSlice t n xs => oBad (bslOf P oo t n xs.toList)
  | o => oBad (kOf2 P oo o)
theorem oBad_inv {o : Option KF} {cl : Cl} (hy : oBad o cl l e h K = .yes) : ∃ k, o = some k ∧ k cl l e h K = .yes := by
  cases o with
  | none => exact no_yes hy
  | some k => exact ⟨k, rfl, hy⟩
theorem op_okF {oo : Operand → EO} {ro : Operand → Value} {cl : Cl} (g : Good T ρ h w) (hr : ∀ x, VR ρ (rd l e (oo x)) (ro x)) {o : Oper} (hy : kF P oo o.op cl l e h K = .yes) : OpAns T P ρ h w K (quiet P o.op) (execOp ro o) := by
  obtain ⟨dst, op, ty, pos, after, gd⟩ := o
  unfold kF at hy
  dsimp only at hy
  split at hy
  · rename_i c
    obtain ⟨callee, args, ats⟩ := c
    cases callee with
    | builtin b =>
      obtain ⟨k, hk, hy⟩ := oBad_inv hy
      have := b_ok (ty := ty) (cs := args.map fun | .const _ => true | _ => false) g hr hk hy
      have e1 : execOp ro ⟨dst, .call ⟨.builtin b, args, ats⟩, ty, pos, after, gd⟩ = builtin b ats.toList.toArray ty (args.map fun | .const _ => true | _ => false) (args.toList.map ro).toArray := by
        have e2 : (args.toList.map ro).toArray = args.map ro := by rw [← Array.toList_map, Array.toArray_toList]
        rw [e2]
        rfl
      rw [e1]; exact this
    | value f => exact no_yes hy
    | invoke a b => exact no_yes hy
  · obtain ⟨k, hk, hy⟩ := oBad_inv hy; exact AnsQ.op (build_ok g hr hk hy)
  · obtain ⟨k, hk, hy⟩ := oBad_inv hy; exact Ans.op (bsl_ok g hr hk hy)
  · obtain ⟨k, hk, hy⟩ := oBad_inv hy; exact op_ok2 g hr hk hy
end
end
end Ev
namespace Ev
noncomputable section
open Go
section
variable {T : Tb} {ρ σ : Rho} {h : HP} {w : World} {P : Program} {l : LS} {e : Tr AV} {lv : Nat → Bool} {n : Nat} {ds : List (Option Nat)} {tm : Array Value}

/-! ### a region's operands -/
def idxOf (t : Nat) : List (Option Nat) → Nat → Option Nat
  | [], _ => none
  | none :: r, i => idxOf t r (Nat.add i 1)
  | some d :: r, i => bif Nat.beq d t then some i else idxOf t r (Nat.add i 1)
def toOf (ds : List (Option Nat)) (t : Nat) : EO :=
  match idxOf t ds 0 with
  | some i => .l i
  | none => bif Nat.ble t 1000000 then .t (Ps.of t) else .k .un
def ooOf (ds : List (Option Nat)) : Operand → EO
  | .tmp t => toOf ds t
  | .const v => .k (cvV 1000 v)
  | .global _ => .k .un
  | .func f => bif Nat.ble f 1000000 then .k (.fn (Ps.of f) .nil .nil) else .k .un
theorem idx_add (t : Nat) : ∀ (r : List (Option Nat)) (i : Nat), idxOf t r (i + 1) = (idxOf t r i).map (· + 1)
  | [], i => rfl
  | none :: r, i => idx_add t r (i + 1)
  | some d :: r, i => by
    unfold idxOf
    cases Nat.beq d t with
    | true => rfl
    | false => exact idx_add t r (i + 1)
theorem to_none (t : Nat) (v : AV) : rd (.c v l) e (toOf (none :: ds) t) = rd l e (toOf ds t) := by
  unfold toOf
  rw [show idxOf t (none :: ds) 0 = idxOf t ds (0 + 1) from rfl, idx_add]
  cases idxOf t ds 0 <;> simp only [Option.map]
  · cases Nat.ble t 1000000 <;> rfl
  · rfl
theorem to_same (t : Nat) (v : AV) : rd (.c v l) e (toOf (some t :: ds) t) = v := by
  unfold toOf
  rw [show idxOf t (some t :: ds) 0 = some 0 from by unfold idxOf; simp]
  rfl
theorem to_other {t d : Nat} (hd : d ≠ t) (v : AV) : rd (.c v l) e (toOf (some d :: ds) t) = rd l e (toOf ds t) := by
  unfold toOf
  rw [show idxOf t (some d :: ds) 0 = idxOf t ds (0 + 1) from by
    conv => lhs; unfold idxOf
    rw [show Nat.beq d t = false from by rw [← Bool.not_eq_true, Nat.beq_eq]; exact hd]; rfl, idx_add]
  cases idxOf t ds 0 <;> simp only [Option.map]
  · cases Nat.ble t 1000000 <;> rfl
  · rfl
theorem Ps.of_inj {t d : Nat} (ht : t ≤ 1000000) (hd : d ≤ 1000000) (he : Ps.of t = Ps.of d) : t = d := by
  have := congrArg Ps.idx he
  rwa [Ps.of_idx (by omega), Ps.of_idx (by omega)] at this
/-- a frame's temporaries and the evaluator's, within a region -/
structure LR (lv : Nat → Bool) (n : Nat) (ρ : Rho) (ds : List (Option Nat)) (l : LS) (e : Tr AV) (tm : Array Value) : Prop where
  rel : ∀ t, VR ρ (rd l e (toOf ds t)) (tm.getD t undef)
  live : ∀ t, t ≤ 1000000 → lv t = true → Tr.get .un (Ps.of t) e = rd l e (toOf ds t)
  dead : ∀ t, t ≤ 1000000 → lv t = false → Tr.get .un (Ps.of t) e = .un
  size : tm.size = n
theorem LR.mono (hle : ρ.le σ) (r : LR lv n ρ ds l e tm) : LR lv n σ ds l e tm := ⟨fun t => (r.rel t).mono hle, r.live, r.dead, r.size⟩
theorem LR.oo (r : LR lv n ρ ds l e tm) {a : Act} (ha : a.tmps = tm) : ∀ x, VR ρ (rd l e (ooOf ds x)) (a.eval x)
  | .tmp t => by show VR ρ (rd l e (toOf ds t)) (a.tmps.getD t undef); rw [ha]; exact r.rel t
  | .const v => cvV_ok _ _
  | .global _ => .un _
  | .func f => by
    show VR ρ (rd l e (bif Nat.ble f 1000000 then .k (.fn (Ps.of f) .nil .nil) else .k .un)) (.func (.func f) #[] #[])
    cases hb : Nat.ble f 1000000 with
    | false => exact .un _
    | true =>
      have hf : ∀ m : Nat, Nat.ble m 1000000 = true → m + 1 < 2 ^ 40 := fun m hm => by have := Nat.le_of_ble_eq_true hm; omega
      have := VR.fn (ρ := ρ) (f := Ps.of f) (a := .nil) (b := .nil) (xs := #[]) (ys := #[]) .nil .nil trivial trivial
      rwa [Ps.of_idx (n := f) (hf f hb)] at this
theorem LR.pushN (r : LR lv n ρ ds l e tm) (v : AV) : LR lv n ρ (none :: ds) (.c v l) e tm :=
  ⟨fun t => by rw [to_none]; exact r.rel t, fun t h1 h2 => by rw [to_none]; exact r.live t h1 h2, r.dead, r.size⟩
/-- the region is over -/
theorem LR.over (r : LR lv n ρ ds l e tm) : LR lv n ρ [] .nil e tm := by
  have h0 : ∀ t, rd LS.nil e (toOf [] t) = (if t ≤ 1000000 then Tr.get .un (Ps.of t) e else .un) := fun t => by
    unfold toOf
    show rd LS.nil e (bif Nat.ble t 1000000 then .t (Ps.of t) else .k .un) = _
    cases hb : Nat.ble t 1000000 with
    | true => rw [if_pos (Nat.le_of_ble_eq_true hb)]; rfl
    | false => rw [if_neg (fun h => by rw [Nat.ble_eq_true_of_le h] at hb; cases hb)]; rfl
  refine ⟨fun t => ?_, fun t h1 h2 => by rw [h0, if_pos h1], r.dead, r.size⟩
  rw [h0]
  split
  · rename_i h1
    cases hl : lv t with
    | true => rw [r.live t h1 hl]; exact r.rel t
    | false => rw [r.dead t h1 hl]; exact .un _
  · exact .un _
theorem rd_set (x : EO) (l : LS) (p : Ps) (v : AV) (hx : x ≠ .t p) : rd l (Tr.set .un v p e) x = rd l e x := by
  cases x with
  | l i => rfl
  | k u => rfl
  | t q =>
    show Tr.get .un q (Tr.set .un v p e) = Tr.get .un q e
    rw [get_set, if_neg (fun h => hx (by rw [h]))]
theorem getD_set (tm : Array Value) (d t : Nat) (x : Value) (hd : d < tm.size) : (tm.setIfInBounds d x).getD t undef = if t = d then x else tm.getD t undef := by
  simp only [Array.getD_eq_getD_getElem?, Array.getElem?_setIfInBounds]
  by_cases h1 : d = t
  · subst h1; simp [hd]
  · rw [if_neg h1, if_neg (fun h => h1 h.symm)]
/-- one operation's answer -/
theorem LR.push (r : LR lv n ρ ds l e tm) {d : Nat} (hd : d < n) (hd6 : d ≤ 1000000) {v : AV} {x : Value} (hv : VR ρ v x) :
    LR lv n ρ (some d :: ds) (.c v l) (if lv d = true then Tr.set .un v (Ps.of d) e else e) (tm.setIfInBounds d x) := by
  have hsz : d < tm.size := by rw [r.size]; exact hd
  have hne : ∀ t, d ≠ t → toOf ds t ≠ .t (Ps.of d) := fun t hdt he => by
    unfold toOf at he
    split at he
    · cases he
    · cases hb : Nat.ble t 1000000 with
      | true =>
        rw [hb] at he
        have he : EO.t (Ps.of t) = .t (Ps.of d) := he
        exact hdt (Ps.of_inj hd6 (Nat.le_of_ble_eq_true hb) (EO.t.inj he).symm)
      | false => rw [hb] at he; cases he
  have hrd : ∀ t, d ≠ t → rd (.c v l) (if lv d = true then Tr.set .un v (Ps.of d) e else e) (toOf (some d :: ds) t) = rd l e (toOf ds t) := fun t hdt => by
    rw [to_other hdt]
    split
    · exact rd_set _ _ _ _ (hne t hdt)
    · rfl
  have hget : ∀ t, t ≤ 1000000 → d ≠ t → Tr.get .un (Ps.of t) (if lv d = true then Tr.set .un v (Ps.of d) e else e) = Tr.get .un (Ps.of t) e := fun t ht hdt => by
    split
    · rw [get_set, if_neg (fun h => hdt (Ps.of_inj ht hd6 h).symm)]
    · rfl
  refine ⟨fun t => ?_, fun t h1 h2 => ?_, fun t h1 h2 => ?_, by simp [r.size]⟩
  · rw [getD_set _ _ _ _ hsz]
    by_cases hdt : d = t
    · subst hdt; rw [if_pos (show d = d from rfl), to_same]; exact hv
    · rw [if_neg (show ¬ t = d from fun h => hdt h.symm), hrd t hdt]; exact r.rel t
  · by_cases hdt : d = t
    · subst hdt; rw [to_same, if_pos h2, get_set, if_pos rfl]
    · rw [hrd t hdt, hget t h1 hdt]; exact r.live t h1 h2
  · by_cases hdt : d = t
    · subst hdt; rw [if_neg (by simp [h2])]; exact r.dead d h1 h2
    · rw [hget t h1 hdt]; exact r.dead t h1 h2
end
end
end Ev
namespace Ev
noncomputable section
open Go Go.Conc
section
variable {P : Program} {F : Fence} {n : Nat} {Q : Exit → Act → World → Prop} {a : Act} {w : World}

/-! ### a code's contract in a frame that is no early one (there messages can go) -/
/-- from this item on, above that -/
def Jo (F : Fence) (n : Nat) (P : Program) (x : Item) (Q : Exit → Act → World → Prop) (a : Act) (w : World) : Prop :=
  ∀ (b : Frame) (k : List Item) (cs : List Frame), b.kind ≠ .early → b.roundOf = F.round → F.fn b.fn → F.room (cs.length + 1 + n) →
    ∃ e a' w', Q e a' w' ∧ ArrivesIn (Machine.fenced P F) P (lone (b.atR a (x :: k)) cs w) b k cs e a' w'
abbrev Jc (F : Fence) (n : Nat) (P : Program) (c : Code) (Q : Exit → Act → World → Prop) (a : Act) (w : World) : Prop := Jo F n P (.code c) Q a w
abbrev Jr (F : Fence) (n : Nat) (P : Program) (ops : Array Oper) (Q : Exit → Act → World → Prop) (r : List Nat) (a : Act) (w : World) : Prop := Jo F n P (.inRegion ops r) Q a w
theorem j_of {c : Code} (h : c.wpIn F n P Q a w) : Jc F n P c Q a w := fun b k cs _ h1 h2 h3 => h b k cs h1 h2 h3
theorem j_seq {x y : Code} (h : Jc F n P x (Exit.then (Jc F n P y Q) Q) a w) : Jc F n P (.seq x y) Q a w := by
  intro b k cs h0 h1 h2 h3
  have s0 : StepsIn (Machine.fenced P F) P (lone (b.atR a (.code (.seq x y) :: k)) cs w) (lone (b.atR a (.code x :: .code y :: k)) cs w) := .one (fenced_calm h2 h3 rfl) stepR_seq
  obtain ⟨e, a1, w1, q, r⟩ := h b (.code y :: k) cs h0 h1 h2 h3
  by_cases he : e = .normal
  · subst he
    obtain ⟨e2, a2, w2, q2, r2⟩ := q b k cs h0 h1 h2 h3
    exact ⟨e2, a2, w2, q2, .of_steps (s0.trans r) r2⟩
  · refine ⟨e, a1, w1, ?_, .of_steps s0 (.pass (x := .code y) rfl (fun _ _ => .inl he) r)⟩
    cases e <;> first | exact q | exact absurd rfl he
theorem j_cond {c : Operand} {x y : Code} {t : Bool} (hc : a.eval c = .bool t) (h : Jc F n P (if t then x else y) Q a w) : Jc F n P (.cond c x y) Q a w := by
  intro b k cs h0 h1 h2 h3
  obtain ⟨e, a1, w1, q, r⟩ := h b k cs h0 h1 h2 h3
  exact ⟨e, a1, w1, q, .of_steps (.one (fenced_calm h2 h3 rfl) (stepR_cond hc)) r⟩
theorem j_block {id : Nat} {c : Code} (h : Jc F n P c (Exit.inBlock id Q) a w) : Jc F n P (.block id c) Q a w := by
  intro b k cs h0 h1 h2 h3
  have s0 : StepsIn (Machine.fenced P F) P (lone (b.atR a (.code (.block id c) :: k)) cs w) (lone (b.atR a (.code c :: .inBlock id :: k)) cs w) := .one (fenced_calm h2 h3 rfl) stepR_block
  obtain ⟨e, a1, w1, q, r⟩ := h b (.inBlock id :: k) cs h0 h1 h2 h3
  cases e with
  | normal => exact ⟨.normal, a1, w1, q, s0.trans (StepsIn.trans r (.one (fenced_calm h2 h3 rfl) stepR_inBlock))⟩
  | ret => exact ⟨.ret, a1, w1, q, .of_steps s0 r⟩
  | panic ch => exact ⟨.panic ch, a1, w1, q, .of_steps s0 r⟩
  | outgrown => exact ⟨.outgrown, a1, w1, q, .of_steps s0 r⟩
  | goto j =>
    have hg : ∀ z, gotoIn j (.inBlock id :: z) = gotoIn j z := fun z => by simp [gotoIn]
    refine ⟨.goto j, a1, w1, q, ⟨fun k' hk => s0.trans (r.1 k' (by rw [hg]; exact hk)), fun hro hk => ?_⟩⟩
    obtain ⟨k1, g1, g2⟩ := r.2 hro (by rw [hg]; exact hk)
    exact ⟨k1, g1, s0.trans g2⟩
  | exit j =>
    by_cases hj : j = id
    · subst hj
      have q : Q .normal a1 w1 := by simpa [Exit.inBlock] using q
      exact ⟨.normal, a1, w1, q, s0.trans (r.1 k (by simp [exitTo]))⟩
    · have q : Q (.exit j) a1 w1 := by simpa [Exit.inBlock, hj] using q
      have hg : ∀ z, exitTo j (.inBlock id :: z) = exitTo j z := fun z => by
        have : (id == j) = false := by simpa using fun hh => hj hh.symm
        simp [exitTo, this]
      refine ⟨.exit j, a1, w1, q, ⟨fun k' hk => s0.trans (r.1 k' (by rw [hg]; exact hk)), fun hro hk => ?_⟩⟩
      obtain ⟨k1, g1, g2⟩ := r.2 hro (by rw [hg]; exact hk)
      exact ⟨k1, g1, s0.trans g2⟩
theorem stepR_scope' {b : Frame} {k : List Item} {cs : List Frame} {c : Code} : step P (lone (b.atR a (.code (.scope c) :: k)) cs w) = .next (lone (b.atR a (.code c :: .inScope c :: k)) cs w) :=
  step_lone_go (by simp [stepG, stepG.exec, Frame.atR])
theorem stepR_inScope' {b : Frame} {k : List Item} {cs : List Frame} {c : Code} : step P (lone (b.atR a (.inScope c :: k)) cs w) = .next (lone (b.atR a k) cs w) :=
  step_lone_go (by simp [stepG, stepG.exec, Frame.atR])
/-- a scope without jumps -/
theorem j_scope {c : Code} (h : Jc F n P c (fun e a w => match e with | .goto _ => False | e => Q e a w) a w) : Jc F n P (.scope c) Q a w := by
  intro b k cs h0 h1 h2 h3
  have s0 : StepsIn (Machine.fenced P F) P (lone (b.atR a (.code (.scope c) :: k)) cs w) (lone (b.atR a (.code c :: .inScope c :: k)) cs w) := .one (fenced_calm h2 h3 rfl) stepR_scope'
  obtain ⟨e, a1, w1, q, r⟩ := h b (.inScope c :: k) cs h0 h1 h2 h3
  cases e with
  | normal => exact ⟨.normal, a1, w1, q, s0.trans (StepsIn.trans r (.one (fenced_calm h2 h3 rfl) stepR_inScope'))⟩
  | ret => exact ⟨.ret, a1, w1, q, .of_steps s0 r⟩
  | panic ch => exact ⟨.panic ch, a1, w1, q, .of_steps s0 r⟩
  | outgrown => exact ⟨.outgrown, a1, w1, q, .of_steps s0 r⟩
  | goto j => exact absurd q id
  | exit j =>
    have hg : ∀ z, exitTo j (.inScope c :: z) = exitTo j z := fun z => by simp [exitTo]
    refine ⟨.exit j, a1, w1, q, ⟨fun k' hk => s0.trans (r.1 k' (by rw [hg]; exact hk)), fun hro hk => ?_⟩⟩
    obtain ⟨k1, g1, g2⟩ := r.2 hro (by rw [hg]; exact hk)
    exact ⟨k1, g1, s0.trans g2⟩
theorem j_loop {c : Code} (I : Act → World → Prop) (μ : Act → World → Nat) (hI : I a w) (hs : ∀ a w, I a w → Jc F n P c (Exit.then (fun a' w' => I a' w' ∧ μ a' w' < μ a w) Q) a w) : Jc F n P (.loop c) Q a w := by
  intro b k cs h0 h1 h2 h3
  have key : ∀ (j : Nat) (a : Act) (w : World), μ a w ≤ j → I a w → ∃ e a' w', Q e a' w' ∧ ArrivesIn (Machine.fenced P F) P (lone (b.atR a (.code c :: .inLoop c :: k)) cs w) b k cs e a' w' := by
    intro j
    induction j with
    | zero =>
      intro a w hj hI
      obtain ⟨e, a1, w1, q, r⟩ := hs a w hI b (.inLoop c :: k) cs h0 h1 h2 h3
      by_cases he : e = .normal
      · subst he; have := q.2; omega
      · refine ⟨e, a1, w1, ?_, .pass (x := .inLoop c) rfl (fun _ _ => .inl he) r⟩
        cases e <;> first | exact q | exact absurd rfl he
    | succ j ih =>
      intro a w hj hI
      obtain ⟨e, a1, w1, q, r⟩ := hs a w hI b (.inLoop c :: k) cs h0 h1 h2 h3
      by_cases he : e = .normal
      · subst he
        obtain ⟨qI, qm⟩ := q
        obtain ⟨e2, a2, w2, q2, r2⟩ := ih a1 w1 (by omega) qI
        exact ⟨e2, a2, w2, q2, .of_steps (StepsIn.trans r (.one (fenced_calm h2 h3 rfl) stepR_inLoop)) r2⟩
      · refine ⟨e, a1, w1, ?_, .pass (x := .inLoop c) rfl (fun _ _ => .inl he) r⟩
        cases e <;> first | exact q | exact absurd rfl he
  obtain ⟨e, a1, w1, q, r⟩ := key (μ a w) a w (Nat.le_refl _) hI
  exact ⟨e, a1, w1, q, .of_steps (.one (fenced_calm h2 h3 rfl) stepR_loop) r⟩
theorem j_region {id : Nat} {ops : Array Oper} (h : Jr F n P ops Q (List.range ops.size) a w) : Jc F n P (.region id ops false) Q a w := by
  intro b k cs h0 h1 h2 h3
  obtain ⟨e, a1, w1, q, r⟩ := h b k cs h0 h1 h2 h3
  exact ⟨e, a1, w1, q, .of_steps (.one (fenced_calm h2 h3 rfl) stepR_region) r⟩
theorem j_nil {ops : Array Oper} (h : Q .normal a w) : Jr F n P ops Q [] a w := fun b k cs h0 h1 h2 h3 => ⟨.normal, a, w, h, .one (fenced_calm h2 h3 rfl) stepR_region_end⟩
/-- one that is left out -/
theorem j_skip {ops : Array Oper} {i : Nat} {r : List Nat} {o : Oper} (ho : ops[i]? = some o) (hw : Region.wanted o (yielded ops a.tmps) = false) (ha : ∀ f, o.about P w a.eval = some f → F.fn f)
    (h : Jr F n P ops Q r (a.put o.dst undef) w) : Jr F n P ops Q (i :: r) a w := by
  intro b k cs h0 h1 h2 h3
  obtain ⟨e, a1, w1, q, ar⟩ := h b k cs h0 h1 h2 h3
  have hs := stepR_op_skip (P := P) (b := b) (a := a) (k := k) (cs := cs) (w := w) (ops := ops) (i := i) (rest := r) (by rw [ho]; simpa using hw)
  rw [ho] at hs
  exact ⟨e, a1, w1, q, .of_steps (.one (fenced_oper h2 h3 ho ha) hs) ar⟩
/-- what an operation promises: whatever the region does behind it -/
def Jop (F : Fence) (n : Nat) (P : Program) (o : Oper) (a : Act) (w : World) (next : Act → World → Prop) : Prop :=
  ∀ (ops : Array Oper) (i : Nat) (r : List Nat) (Q : Exit → Act → World → Prop), ops[i]? = some o → Region.wanted o (yielded ops a.tmps) = true → (∀ a' w', next a' w' → Jr F n P ops Q r a' w') → Jr F n P ops Q (i :: r) a w
theorem jop_of {o : Oper} {next : Act → World → Prop} (h : o.wpIn F n P a w next (fun _ _ _ => False)) : Jop F n P o a w next := by
  intro ops i r Q ho hw hn b k cs h0 h1 h2 h3
  obtain ⟨ha, hu⟩ := h
  have hf : (lone (b.atR a (.inRegion ops (i :: r) :: k)) cs w).fenced P F := fenced_oper h2 h3 ho ha
  have hg := stepGR_op (P := P) (b := b) (k := k) (cs := cs) (w := w) (rest := r) ho hw
  rw [h1] at hg
  have hfin : ∀ v, (b.atR a (.inRegion ops (i :: r) :: k)).finish v = b.atR (a.put o.dst v) (.inRegion ops r :: k) := fun v => by rw [Frame.finish_atR, ho]; rfl
  cases hres : (o.semAt F.round a.eval).run P w with
  | halt x w' => rw [hres] at hu; cases x <;> exact absurd hu id
  | ok nx w' =>
    rw [hres] at hu
    have go : ∀ a1 w1, next a1 w1 → StepsIn (Machine.fenced P F) P (lone (b.atR a (.inRegion ops (i :: r) :: k)) cs w) (lone (b.atR a1 (.inRegion ops r :: k)) cs w1) →
        ∃ e a' w', Q e a' w' ∧ ArrivesIn (Machine.fenced P F) P (lone (b.atR a (.inRegion ops (i :: r) :: k)) cs w) b k cs e a' w' := by
      intro a1 w1 hnx hst
      obtain ⟨e, a2, w2, q, ar⟩ := hn a1 w1 hnx b k cs h0 h1 h2 h3
      exact ⟨e, a2, w2, q, .of_steps hst ar⟩
    cases nx with
    | value v => exact go _ _ hu (.one hf (step_lone_go (by rw [hg, ← hfin]; simp [stepG.apply, hres])))
    | skip => exact go _ _ hu (.one hf (step_lone_go (by rw [hg, ← hfin]; simp [stepG.apply, hres])))
    | defer dd =>
      have e1 : ({ b.atR a (.inRegion ops (i :: r) :: k) with defers := dd :: a.defers } : Frame).finish undef = b.atR ({ a with defers := dd :: a.defers }.put o.dst undef) (.inRegion ops r :: k) := by
        have := Frame.finish_atR b { a with defers := dd :: a.defers } ops i r k undef
        rw [ho] at this; exact this
      refine go _ _ hu (.one hf (step_lone_go ?_))
      rw [hg]
      simp only [stepG.apply, Sem.runT_eq, hres, GStep.bare_after]
      exact congrArg (fun fr => GStep.go { frame := fr, callers := cs, status := .running, dying := none } w') e1
    | enter f args =>
      obtain ⟨hd, hcf, hc⟩ := hu
      have hroom : F.room ((b.atR a (.inRegion ops (i :: r) :: k) :: cs).length + 1 + (n - 1)) := Fence.room_enter h3 hd
      obtain ⟨en, w2, fr, hR, hst, hfn, hlv⟩ := hc (b.atR a (.inRegion ops (i :: r) :: k) :: cs) hroom
      have hin : step P (lone (b.atR a (.inRegion ops (i :: r) :: k)) cs w) = .next (lone (Frame.enter P f args .normal) (b.atR a (.inRegion ops (i :: r) :: k) :: cs) w') :=
        step_lone_go (by rw [hg]; simp [stepG.apply, hres, Frame.atR])
      cases en with
      | panicked ch => exact absurd hR id
      | outgrown => obtain ⟨_, _, hq⟩ := hR; exact absurd hq id
      | returned v =>
        refine go _ _ hR (.head hf hin (StepsIn.trans hst (.one (fenced_leaving (hfn ▸ hcf) hroom hlv) ?_)))
        rw [← hfin]; exact step_leave_returned hlv
    | round l f tmps assign body =>
      obtain ⟨hd, _, hc⟩ := hu
      obtain ⟨en, w2, hR, hst⟩ := hc (b.atR a (.inRegion ops (i :: r) :: k)) cs (Fence.room_enter h3 hd)
      have hin : step P (lone (b.atR a (.inRegion ops (i :: r) :: k)) cs w) = .next (lone (Frame.round l f tmps assign body .normal) (b.atR a (.inRegion ops (i :: r) :: k) :: cs) w') :=
        step_lone_go (by rw [hg]; simp [stepG.apply, hres, Frame.atR])
      cases en with
      | panicked ch => exact absurd hR id
      | outgrown => obtain ⟨_, _, hq⟩ := hR; exact absurd hq id
      | returned v =>
        refine go _ _ hR (.head hf hin ?_)
        rw [← hfin]; exact hst
    | row row args =>
      obtain ⟨hd, hc⟩ := hu
      obtain ⟨v, w2, hR, hst⟩ := hc (b.atR a (.inRegion ops (i :: r) :: k)) cs (Fence.room_enter h3 hd)
      have hin : step P (lone (b.atR a (.inRegion ops (i :: r) :: k)) cs w) = .next (lone (Frame.ofRow P row args .normal) (b.atR a (.inRegion ops (i :: r) :: k) :: cs) w') :=
        step_lone_go (by rw [hg]; simp [stepG.apply, hres, Frame.atR])
      refine go _ _ hR (.head hf hin ?_)
      rw [← hfin]; exact hst
    | _ => exact absurd hu id
/-- a message -/
theorem jop_comm {o : Oper} {next : Act → World → Prop} (hro : F.round = none) (ha : ∀ f, o.about P w a.eval = some f → F.fn f) {cases : Array CommCase} {blocking : Bool} {shape : CommShape} {w' w2 : World} {v : Value}
    (hrun : (execOp a.eval o).run P w = .ok (.comm cases blocking shape) w')
    (hst : ∀ fr cs es, stepG P true (G fr cs) w = .comm (G fr cs) cases blocking shape w' es → step P (solo (G fr cs) w) = .next (solo (G (fr.finish v) cs) w2))
    (hn : next (a.put o.dst v) w2) : Jop F n P o a w next := by
  intro ops i r Q ho hw hnx b k cs h0 h1 h2 h3
  obtain ⟨e, a1, w1, q, ar⟩ := hnx _ _ hn b k cs h0 h1 h2 h3
  have hf : (lone (b.atR a (.inRegion ops (i :: r) :: k)) cs w).fenced P F := fenced_oper h2 h3 ho ha
  have hb : b.roundOf = none := by rw [h1]; exact hro
  have hs := hst _ cs _ (stepG_comm (P := P) (b := b) (k := k) (cs := cs) (rest := r) (main := true) ho hw h0 hrun)
  rw [Frame.finish_at, ho, Option.bind_some] at hs
  rw [Frame.atR_of_none hb] at hf ⊢
  refine ⟨e, a1, w1, q, .of_steps (.one hf hs) ?_⟩
  rw [Frame.atR_of_none hb] at ar
  exact ar
/-- a function out of its body -/
theorem callsIn_of_j {f : FuncId} {fn : Func} {c : Code} {args : Array Value} {R : Ending → World → Prop} (hf : P.funcs[f]? = some fn) (hb : fn.body = some c) (hF : F.fn f) (hro : F.round = none)
    (h : Jc F n P c (bodyPost P fn R) { tmps := args ++ Array.replicate (fn.ntmps - args.size) undef, defers := [] } w) (hpan : ∀ ch w', ¬ R (.panicked ch) w') (hout : ∀ w', ¬ R .outgrown w') : CallsIn F n P f args w R := by
  refine ⟨hF, fun cs hr => ?_⟩
  let b : Frame := { (default : Frame) with fn := f, kind := .normal, roundOf := none }
  have hen : Frame.enter P f args .normal = b.atR { tmps := args ++ Array.replicate (fn.ntmps - args.size) undef, defers := [] } [.code c] := by simp [Frame.enter, Frame.atR, hf, hb, b]
  obtain ⟨e, a1, w1, q, ar⟩ := h b [] cs (by simp [b]) hro.symm hF hr
  rw [← hen] at ar
  cases e with
  | normal =>
    obtain ⟨q1, v, q2, q3⟩ := q
    exact ⟨.returned v, w1, { b.atR a1 [] with mode := .returning }, q3, StepsIn.trans ar (.one (fenced_calm (fr := b.atR a1 []) hF hr rfl) (stepR_end rfl)), rfl, rfl, q1, rfl, fn, hf, q2⟩
  | ret =>
    obtain ⟨q1, v, q2, q3⟩ := q
    obtain ⟨todo, st⟩ := ar.1 rfl
    exact ⟨.returned v, w1, { b.atR a1 todo with mode := .returning }, q3, st, rfl, rfl, q1, rfl, fn, hf, q2⟩
  | panic ch => exact absurd q.2 (hpan _ _)
  | outgrown => exact absurd q (hout _)
  | _ => exact absurd q id
/-- .. entered as a deferred call -/
theorem callsDIn_of_j {f : FuncId} {fn : Func} {c : Code} {args : Array Value} {u : FrameMode} {R : Ending → World → Prop} (hf : P.funcs[f]? = some fn) (hb : fn.body = some c) (hF : F.fn f) (hro : F.round = none)
    (h : Jc F n P c (bodyPost P fn R) { tmps := args ++ Array.replicate (fn.ntmps - args.size) undef, defers := [] } w) (hpan : ∀ ch w', ¬ R (.panicked ch) w') (hout : ∀ w', ¬ R .outgrown w') : CallsDIn F n P f args u w (fun e u' w' => u' = u ∧ R e w') := by
  refine ⟨hF, fun c0 cs hu hr => ?_⟩
  let b : Frame := { (default : Frame) with fn := f, kind := .deferred, roundOf := none }
  have hen : Frame.enter P f args .deferred = b.atR { tmps := args ++ Array.replicate (fn.ntmps - args.size) undef, defers := [] } [.code c] := by simp [Frame.enter, Frame.atR, hf, hb, b]
  have hc : ({ c0 with mode := u } : Frame) = c0 := by subst hu; rfl
  obtain ⟨e, a1, w1, q, ar⟩ := h b [] (c0 :: cs) (by simp [b]) hro.symm hF hr
  rw [← hen] at ar
  cases e with
  | normal =>
    obtain ⟨q1, v, q2, q3⟩ := q
    refine ⟨.returned v, u, w1, { b.atR a1 [] with mode := .returning }, ⟨rfl, q3⟩, ?_, rfl, rfl, rfl, q1, fn, hf, q2⟩
    rw [hc]; exact StepsIn.trans ar (.one (fenced_calm (fr := b.atR a1 []) hF hr rfl) (stepR_end rfl))
  | ret =>
    obtain ⟨q1, v, q2, q3⟩ := q
    obtain ⟨todo, st⟩ := ar.1 rfl
    exact ⟨.returned v, u, w1, { b.atR a1 todo with mode := .returning }, ⟨rfl, q3⟩, (by rw [hc]; exact st), rfl, rfl, rfl, q1, fn, hf, q2⟩
  | panic ch => exact absurd q.2 (hpan _ _)
  | outgrown => exact absurd q (hout _)
  | _ => exact absurd q id
/-! ### leaving, with deferred calls, close, and loops' marks -/
def LvJ (F : Fence) (P : Program) (fn : Func) (tm : Array Value) (R : Ending → World → Prop) : List Deferred → World → Prop
  | [], w => ∃ v, (results fn tm).run P w = .ok v w ∧ R (.returned v) w
  | d :: ds, w =>
    (∃ r w', d.target = .collected r ∧ (Instr.takeDeferred r).run P w = .ok [] w' ∧ LvJ F P fn tm R ds w') ∨
    (∃ b ts ty cs v w', d.target = .builtin b ts ty cs ∧ (invoke d.target d.args).run P w = .ok (.value v) w' ∧ LvJ F P fn tm R ds w') ∨
    (∃ fv cap f args, d.target = .fn fv cap ∧ (invoke d.target d.args).run P w = .ok (.enter f args) w ∧
      CallsDIn F 0 P f args .returning w (fun e u w' => u = .returning ∧ ∃ v, e = .returned v ∧ LvJ F P fn tm R ds w'))
theorem step_defer_b {fr : Frame} {cs : List Frame} {w' : World} {d : Deferred} {ds : List Deferred} {bb : Builtin} {ts : Array TypeId} {ty : TypeId} {cn : Array Bool} {v : Value} (hm : fr.mode = .returning) (hd : fr.defers = d :: ds) (ht : d.target = .builtin bb ts ty cn)
    (hi : (invoke d.target d.args).run P w = .ok (.value v) w') : step P (lone fr cs w) = .next (lone { fr with defers := ds } cs w') := by
  obtain ⟨t, x⟩ := d
  simp only at ht hi
  subst ht
  exact step_lone_go (by simp [stepG, unwind, callDeferred, hm, hd, hi])
theorem lvj_steps {fn : Func} {tm : Array Value} {R : Ending → World → Prop} (hFn : ∀ f, F.fn f) (hdep : F.depth = none) : ∀ (ds : List Deferred) (w : World) (fr : Frame) (cs : List Frame), fr.mode = .returning → fr.defers = ds → fr.tmps = tm → P.funcs[fr.fn]? = some fn → fr.kind = .normal → LvJ F P fn tm R ds w →
    ∃ e w' fr', R e w' ∧ ComesIn (Machine.fenced P F) P (lone fr cs w) (lone fr' cs w') e ∧ fr'.fn = fr.fn ∧ fr'.leaving P w' e := by
  have room : ∀ k, F.room k := fun k d hd => by rw [hdep] at hd; cases hd
  intro ds
  induction ds with
  | nil =>
    intro w fr cs hm hd ht hf hk h
    obtain ⟨v, h1, h2⟩ := h
    exact ⟨.returned v, w, fr, h2, .refl _, rfl, hm, hd, hk, fn, hf, by rw [ht]; exact h1⟩
  | cons d ds ih =>
    intro w fr cs hm hd ht hf hk h
    have hout : (lone fr cs w).fenced P F := fenced_out (n := 0) (hFn _) (room _) (by rw [hm]; simp) hd (fun g _ => hFn g)
    rcases h with ⟨r, w1, g1, g2, g3⟩ | ⟨bb, ts, ty, cn, v, w1, g1, g2, g3⟩ | ⟨fv, cap, f, args, g1, g2, g3⟩
    · have s1 := step_collected (cs := cs) (P := P) (by rw [hm]; simp) hd g1 g2
      obtain ⟨e, w2, fr', q1, q2, q3, q4⟩ := ih w1 { fr with defers := [] ++ ds } cs hm rfl ht hf hk g3
      exact ⟨e, w2, fr', q1, ComesIn.of_steps (.one hout s1) q2, q3, q4⟩
    · have s1 := step_defer_b (cs := cs) hm hd g1 g2
      obtain ⟨e, w2, fr', q1, q2, q3, q4⟩ := ih w1 { fr with defers := ds } cs hm rfl ht hf hk g3
      exact ⟨e, w2, fr', q1, ComesIn.of_steps (.one hout s1) q2, q3, q4⟩
    · have s1 := step_defer (cs := cs) (by rw [hm]; simp) hd g1 g2
      obtain ⟨e, u, w1, frx, hR, hst, hkx, hfx, hgo⟩ := g3.2 { fr with defers := ds } cs hm (room _)
      obtain ⟨rfl, v, rfl, hl⟩ := hR
      have i2 : (lone frx ({ { fr with defers := ds } with mode := .returning } :: cs) w1).fenced P F := fenced_going (n := 0) (hFn _) (room _) hgo
      have s2 := step_going_returned (c := { { fr with defers := ds } with mode := .returning }) (cs := cs) hkx hgo
      obtain ⟨e, w2, fr', q1, q2, q3, q4⟩ := ih w1 { fr with defers := ds, mode := .returning } cs rfl rfl ht hf hk hl
      exact ⟨e, w2, fr', q1, ComesIn.of_steps (.head hout s1 (StepsIn.trans hst (.one i2 s2))) q2, q3, q4⟩
/-- .. that defers calls -/
theorem callsIn_of_j_defers {f : FuncId} {fn : Func} {c : Code} {args : Array Value} {R : Ending → World → Prop} (hf : P.funcs[f]? = some fn) (hb : fn.body = some c) (hFn : ∀ f, F.fn f) (hdep : F.depth = none) (hro : F.round = none)
    (h : Jc F 0 P c (fun e a w => match e with
      | .normal => LvJ F P fn a.tmps R a.defers w
      | .ret => LvJ F P fn a.tmps R a.defers w
      | _ => False) { tmps := args ++ Array.replicate (fn.ntmps - args.size) undef, defers := [] } w) : CallsIn F 0 P f args w R := by
  refine ⟨hFn f, fun cs hr => ?_⟩
  let b : Frame := { (default : Frame) with fn := f, kind := .normal, roundOf := none }
  have hen : Frame.enter P f args .normal = b.atR { tmps := args ++ Array.replicate (fn.ntmps - args.size) undef, defers := [] } [.code c] := by simp [Frame.enter, Frame.atR, hf, hb, b]
  obtain ⟨e, a1, w1, q, ar⟩ := h b [] cs (by simp [b]) hro.symm (hFn f) hr
  rw [← hen] at ar
  cases e with
  | normal =>
    obtain ⟨e', w2, fr', hR, hs, hfn, hl⟩ := lvj_steps hFn hdep a1.defers w1 { b.atR a1 [] with mode := .returning } cs rfl rfl rfl hf rfl q
    exact ⟨e', w2, fr', hR, ComesIn.of_steps (StepsIn.trans ar (.one (fenced_calm (fr := b.atR a1 []) (hFn f) hr rfl) (stepR_end rfl))) hs, hfn, hl⟩
  | ret =>
    obtain ⟨todo, st⟩ := ar.1 rfl
    obtain ⟨e', w2, fr', hR, hs, hfn, hl⟩ := lvj_steps hFn hdep a1.defers w1 { b.atR a1 todo with mode := .returning } cs rfl rfl rfl hf rfl q
    exact ⟨e', w2, fr', hR, ComesIn.of_steps st hs, hfn, hl⟩
  | _ => exact absurd q id
end
end
end Ev
namespace Ev
noncomputable section
open Go
section
variable {T : Tb} {ρ σ : Rho} {h : HP} {w : World} {P : Program} {l : LS} {e : Tr AV} {lv : Nat → Bool} {n m : Nat} {ds : List (Option Nat)} {F : Fence} {cl : Cl}

/-! ### a region that does not draw -/
inductive OC where
  | mv (x : EO) | op (k : KF) | df (f : EO) (xs : List EO) | dc (x : EO)
def dfOf : Callee → Option Operand
  | .value f => some f
  | _ => none
theorem dfOf_inv {c : Callee} {f : Operand} (h : dfOf c = some f) : c = .value f := by
  unfold dfOf at h
  split at h
  · cases h; rfl
  · cases h
def clsOf : Callee → List Operand → Option Operand
  | .builtin .close, [x] => some x
  | _, _ => none
theorem clsOf_inv {c : Callee} {l : List Operand} {x : Operand} (h : clsOf c l = some x) : c = .builtin .close ∧ l = [x] := by
  unfold clsOf at h
  split at h
  · cases h; exact ⟨rfl, rfl⟩
  · cases h
def ocOf (fl : Bool) (kc : (Operand → EO) → Op → KF) (oo : Operand → EO) (o : Op) : OC :=
  match o with
  | .move x => .mv (oo x) | .assign x => .mv (oo x)
  | .defer c => match fl, dfOf c.callee with
    | true, some f => .df (oo f) (c.args.toList.map oo)
    | true, none => match clsOf c.callee c.args.toList with
      | some x => .dc (oo x)
      | none => .op kBad
    | _, _ => .op kBad
  | o => .op (kc oo o)
def elC (g : Option (EO × Bool)) (dst : Option Nat) (c : OC) (r : EL) : EL :=
  match g, dst, c with
  | none, none, .mv x => .m x r
  | none, some d, .mv x => .me (Ps.of d) x r
  | none, none, .op k => .s k r
  | none, some d, .op k => .se (Ps.of d) k r
  | some (g, w), none, .mv x => .gm g w x r
  | some (g, w), none, .op k => .gs g w k r
  | some (g, w), some d, .mv x => .ge g w (Ps.of d) (fun _ l e h K => K (rd l e x) h) r
  | some (g, w), some d, .op k => .ge g w (Ps.of d) k r
  | none, none, .df f xs => .df f xs r
  | _, _, .df f xs => .s kBad .nil
  | none, none, .dc x => .dc x r
  | _, _, .dc x => .s kBad .nil
def lvD (lv : Nat → Bool) : Option Nat → Option Nat
  | some d => bif lv d then some d else none
  | none => none
def gdOf (ops : Array Oper) (ds : List (Option Nat)) : Option (Nat × Bool) → Option (EO × Bool)
  | none => none
  | some (j, w) => match (ops[j]?).bind (·.dst) with
    | some d => some (toOf ds d, w)
    | none => some (.k .un, w)
def dOk (n : Nat) : Option Nat → Bool
  | none => true
  | some d => Nat.blt d n && Nat.ble d 1000000
def elOf (fl : Bool) (kc : (Operand → EO) → Op → KF) (lv : Nat → Bool) (n : Nat) (ops : Array Oper) : List (Option Nat) → List Oper → EL
  | _, [] => .nil
  | ds, o :: r =>
    bif dOk n o.dst then
      elC (gdOf ops ds o.guard) (lvD lv o.dst) (ocOf fl kc (ooOf ds) o.op) (elOf fl kc lv n ops (o.dst :: ds) r)
    else .s kBad .nil
/-- what an operation's code promises -/
def KcOk (T : Tb) (P : Program) (F : Fence) (m : Nat) (cl : Cl) (kc : (Operand → EO) → Op → KF) : Prop :=
  ∀ (ρ : Rho) (h : HP) (w : World) (l : LS) (e : Tr AV) (a : Act) (ro : Operand → Value) (K : Kv) (oo : Operand → EO) (o : Oper) (next : Act → World → Prop) (Q : Exit → Act → World → Prop),
    Good T ρ h w → (∀ x, VR ρ (rd l e (oo x)) (ro x)) → (∀ x ∈ o.op.operands, a.eval x = ro x) → kc oo o.op cl l e h K = .yes →
    (∀ v σ h' w' x, K v h' = .yes → Post T ρ h w σ h' w' → VR σ v x → next (a.put o.dst x) w') → o.wpIn F m P a w next Q
/-- .. whatever the region does behind it; messages too -/
def KjOk (T : Tb) (P : Program) (F : Fence) (m : Nat) (cl : Cl) (kc : (Operand → EO) → Op → KF) : Prop :=
  ∀ (ρ : Rho) (h : HP) (w : World) (l : LS) (e : Tr AV) (a : Act) (K : Kv) (oo : Operand → EO) (o : Oper) (next : Act → World → Prop),
    Good T ρ h w → (∀ x, VR ρ (rd l e (oo x)) (a.eval x)) → kc oo o.op cl l e h K = .yes →
    (∀ v σ h' w' x, K v h' = .yes → Post T ρ h w σ h' w' → VR σ v x → next (a.put o.dst x) w') → Jop F m P o a w next
def upE (d : Option Nat) (v : AV) (e : Tr AV) : Tr AV :=
  match d with | some d => Tr.set .un v (Ps.of d) e | none => e
/-- the places behind an operation -/
theorem LR.dst {a : Act} (r : LR lv n ρ ds l e a.tmps) {dst : Option Nat} (hd : dOk n dst = true) {v : AV} {x : Value} (hv : VR ρ v x) :
    LR lv n ρ (dst :: ds) (.c v l) (upE (lvD lv dst) v e) (a.put dst x).tmps := by
  cases dst with
  | none => exact r.pushN v
  | some d =>
    simp only [dOk, Bool.and_eq_true, Nat.blt_eq] at hd
    have := r.push hd.1 (Nat.le_of_ble_eq_true hd.2) hv
    cases hl : lv d with
    | true => rw [if_pos hl] at this; rw [show lvD lv (some d) = some d from by simp [lvD, hl]]; exact this
    | false => rw [if_neg (by simp [hl])] at this; rw [show lvD lv (some d) = none from by simp [lvD, hl]]; exact this
theorem gd_inv {w : Bool} {y no : R} {v : AV} (hy : gd w y no v = .yes) : (v = .bo w ∧ y = .yes) ∨ ((v = .ud ∨ v = .bo (!w)) ∧ no = .yes) := by
  unfold gd at hy
  split at hy
  · rename_i b
    rw [bf_if] at hy
    cases b <;> cases w <;> simp_all [bf]
  · exact .inr ⟨.inl rfl, hy⟩
  · exact no_yes hy
/-- a step of the evaluator -/
def stC (cl : Cl) (l : LS) (e : Tr AV) (d : Df) (h : HP) (c : OC) (K : AV → Df → HP → R) : R :=
  match c with
  | .mv x => K (rd l e x) d h
  | .op k => k cl l e h (fun v h' => K v d h')
  | .df f xs => dfV (fun l' _ d' h' => K .un d' h') l e d h (rds l e xs) (rd l e f)
  | .dc x => K .un (.cl (rd l e x) :: d) h
def gT (l : LS) (e : Tr AV) : Option (EO × Bool) → Prop
  | none => True
  | some (x, b) => rd l e x = .bo b
theorem elC_run {g : Option (EO × Bool)} {dst : Option Nat} {c : OC} {r : EL} {K : Ct} {d : Df} (hy : runL cl K (elC g dst c r) l e d h = .yes) :
    gT l e g ∧ stC cl l e d h c (fun v d' h' => runL cl K r (.c v l) (upE dst v e) d' h') = .yes ∨
    (∃ x b, g = some (x, b) ∧ (rd l e x = .ud ∨ rd l e x = .bo (!b)) ∧ runL cl K r (.c .ud l) (upE dst .ud e) d h = .yes) := by
  cases g with
  | none =>
    cases dst <;> cases c
    case none.df f xs =>
      refine .inl ⟨trivial, ?_⟩
      have hy : dfV (runL cl K r) l e d h (rds l e xs) (rd l e f) = .yes := hy
      show dfV _ l e d h (rds l e xs) (rd l e f) = .yes
      unfold dfV at hy ⊢
      split at hy
      · exact hy
      · exact no_yes hy
    case some.df => exact no_yes hy
    case some.dc => exact no_yes hy
    all_goals exact .inl ⟨trivial, hy⟩
  | some q =>
    obtain ⟨x, b⟩ := q
    have key : ∀ (y no : R), gd b y no (rd l e x) = .yes → ((rd l e x = .bo b) ∧ y = .yes) ∨ ((rd l e x = .ud ∨ rd l e x = .bo (!b)) ∧ no = .yes) := fun y no hh => gd_inv hh
    cases dst <;> cases c
    case none.df => exact no_yes hy
    case some.df => exact no_yes hy
    case none.dc => exact no_yes hy
    case some.dc => exact no_yes hy
    all_goals
      rcases key _ _ hy with ⟨h1, h2⟩ | ⟨h1, h2⟩
      · exact .inl ⟨h1, h2⟩
      · exact .inr ⟨x, b, rfl, h1, h2⟩
/-- defers are as the frame has them -/
inductive DQ (ρ : Rho) : Dq → Deferred → Prop
  | f {p : Ps} {xs : CV} {cap args : Array Value} (h : AL ρ xs.exp (args ++ cap).toList) (hw : xs.wf) : DQ ρ (.f p xs) { target := .fn (.func p.idx) cap, args }
  | cl {v : AV} {x : Value} {ts : Array TypeId} {ty : TypeId} {cs : Array Bool} (h : VR ρ v x) : DQ ρ (.cl v) { target := .builtin .close ts ty cs, args := #[x] }
  | mk {p : Ps} {l : Loc} (h : ρ p = some l) : DQ ρ (.mk p) { target := .collected l.blk, args := #[] }
inductive DRel (ρ : Rho) : Df → List Deferred → Prop
  | nil : DRel ρ [] []
  | cons {q : Dq} {dd : Deferred} {d : Df} {l : List Deferred} (h : DQ ρ q dd) (t : DRel ρ d l) : DRel ρ (q :: d) (dd :: l)
theorem DQ.mono (hle : ρ.le σ) {q : Dq} {dd : Deferred} (h : DQ ρ q dd) : DQ σ q dd := by
  cases h with
  | f h hw => exact .f (h.mono hle) hw
  | cl h => exact .cl (h.mono hle)
  | mk h => exact .mk (hle _ _ h)
theorem DRel.mono (hle : ρ.le σ) {d : Df} {l : List Deferred} (h : DRel ρ d l) : DRel σ d l := by
  induction h with
  | nil => exact .nil
  | cons h _ ih => exact .cons (h.mono hle) ih
/-- the frames' deferred calls: none, or such -/
def DOf (fl : Bool) (ρ : Rho) (d : Df) (l : List Deferred) : Prop := match fl with
  | true => DRel ρ d l
  | false => d = [] ∧ l = []
theorem DOf.mono {fl : Bool} (hle : ρ.le σ) {d : Df} {l : List Deferred} (h : DOf fl ρ d l) : DOf fl σ d l := by
  cases fl with
  | true => exact DRel.mono hle h
  | false => exact h
theorem about_ok (hF : ∀ f, F.fn f) (o : Oper) (a : Act) (w : World) : ∀ f, o.about P w a.eval = some f → F.fn f := fun f _ => hF f
theorem move_ok (hF : ∀ f, F.fn f) {o : Oper} {x : Operand} (ho : o.op = .move x ∨ o.op = .assign x) {a : Act} {next : Act → World → Prop} {Q : Exit → Act → World → Prop} (hn : next (a.put o.dst (a.eval x)) w) : o.wpIn F m P a w next Q := by
  refine ⟨about_ok hF o a w, ?_⟩
  rw [Oper.semAt_eq _ _ _ (fun c hc => by rcases ho with ho | ho <;> rw [ho] at hc <;> cases hc)]
  have : execOp a.eval o = pure (.value (a.eval x)) := by unfold execOp; rcases ho with ho | ho <;> rw [ho]
  rw [this]; exact hn
theorem put_defers (a : Act) (dst : Option Tmp) (x : Value) : (a.put dst x).defers = a.defers := by cases dst <;> rfl
theorem put_tmps (a : Act) (dst : Option Tmp) (x : Value) (d : List Deferred) : ({ a with defers := d }.put dst x).tmps = (a.put dst x).tmps := by cases dst <;> rfl
theorem st_ok {fl : Bool} (hF : ∀ f, F.fn f) (hro : fl = true → F.round = none) {kc : (Operand → EO) → Op → KF} (hkc : KjOk T P F m cl kc) {a : Act} {d : Df} {K : AV → Df → HP → R} {oo : Operand → EO} {o : Oper} {next : Act → World → Prop}
    (g : Good T ρ h w) (hr : ∀ x, VR ρ (rd l e (oo x)) (a.eval x)) (hd : DOf fl ρ d a.defers) (hy : stC cl l e d h (ocOf fl kc oo o.op) K = .yes)
    (hn : ∀ v σ d' h' w' x (a' : Act), K v d' h' = .yes → Post T ρ h w σ h' w' → VR σ v x → a'.tmps = (a.put o.dst x).tmps → DOf fl σ d' a'.defers → next a' w') : Jop F m P o a w next := by
  unfold ocOf at hy
  split at hy
  · rename_i x hx; exact jop_of (move_ok hF (.inl hx) (hn _ ρ d h w _ _ hy (.refl g) (hr x) rfl (by rw [put_defers]; exact hd)))
  · rename_i x hx; exact jop_of (move_ok hF (.inr hx) (hn _ ρ d h w _ _ hy (.refl g) (hr x) rfl (by rw [put_defers]; exact hd)))
  · rename_i c hc
    split at hy
    · rename_i f hf
      have hf := dfOf_inv hf
      obtain ⟨ca, ar, at_⟩ := c
      simp only at hf
      subst hf
      have hy : dfV (fun l' _ d' h' => K .un d' h') l e d h (rds l e (ar.toList.map oo)) (rd l e (oo f)) = .yes := hy
      have hv := hr f
      unfold dfV at hy
      split at hy
      · rename_i gg ca cb hg
        rw [hg] at hv
        generalize hx : a.eval f = x at hv
        cases hv with
        | @fn _ _ _ xs ys h1 h2 w1 w2 =>
          refine jop_of ⟨about_ok hF o a w, ?_⟩
          obtain ⟨ha, hw⟩ := rds_map hr ar.toList
          have hsem : (o.semAt F.round a.eval).run P w = .ok (.defer { target := .fn (.func gg.idx) ys, args := xs ++ ar.map a.eval }) w := by
            rw [hro rfl, Oper.semAt_none]
            unfold execOp
            rw [hc]
            simp [resolve, Deferred.ofValue, hx]
          rw [hsem, Oper.uponIn_defer]
          refine hn .un ρ _ h w undef _ hy (.refl g) (.un _) (put_tmps _ _ _ _) ?_
          rw [put_defers]
          refine .cons (.f ?_ ?_) hd
          · rw [exp_app w1, exp_app hw]
            simp only [Array.toList_append, List.append_assoc, Array.toList_map]
            exact h1.append (ha.append h2)
          · exact wf_app (wf_app w2 hw) w1
      · exact no_yes hy
    · split at hy
      · rename_i x hx
        obtain ⟨h1, h2⟩ := clsOf_inv hx
        obtain ⟨ca, ar, at_⟩ := c
        simp only at h1 h2
        subst h1
        have hy : K .un (.cl (rd l e (oo x)) :: d) h = .yes := hy
        have har : ar = #[x] := by rw [← Array.toArray_toList (xs := ar), h2]
        subst har
        refine jop_of ⟨about_ok hF o a w, ?_⟩
        have hsem : (o.semAt F.round a.eval).run P w = .ok (.defer { target := .builtin .close at_ o.type (#[x].map fun | .const _ => true | _ => false), args := #[a.eval x] }) w := by
          rw [hro rfl, Oper.semAt_none]
          unfold execOp
          rw [hc]
          simp [resolve]
          cases x <;> rfl
        rw [hsem, Oper.uponIn_defer]
        refine hn .un ρ _ h w undef _ hy (.refl g) (.un _) (put_tmps _ _ _ _) ?_
        rw [put_defers]
        exact .cons (.cl (hr x)) hd
      · exact no_yes hy
    · exact no_yes hy
  · exact hkc ρ h w l e a _ oo o next g hr hy (fun v σ h' w' x h1 h2 h3 => hn v σ d h' w' x _ h1 h2 h3 rfl (by rw [put_defers]; exact hd.mono h2.le))
/-- who is left out, and who is not -/
theorem gd_ok {ops : Array Oper} {o : Oper} {a : Act} (r : LR lv n ρ ds l e a.tmps) :
    (gT l e (gdOf ops ds o.guard) → Region.wanted o (yielded ops a.tmps) = true) ∧
    (∀ x b, gdOf ops ds o.guard = some (x, b) → rd l e x = .ud ∨ rd l e x = .bo (!b) → Region.wanted o (yielded ops a.tmps) = false) := by
  unfold Region.wanted gdOf
  cases hg : o.guard with
  | none => exact ⟨fun _ => rfl, fun x b hh => by cases hh⟩
  | some q =>
    obtain ⟨j, b⟩ := q
    dsimp only
    unfold yielded
    cases hd : (ops[j]?).bind (·.dst) with
    | none =>
      refine ⟨fun hh => ?_, fun x b' hh h2 => ?_⟩
      · cases hh
      · cases hh; rcases h2 with h2 | h2 <;> cases h2
    | some d =>
      have hv := r.rel d
      simp only [Option.bind_some]
      refine ⟨fun hh => ?_, fun x b' hh h2 => ?_⟩
      · have hh : rd l e (toOf ds d) = .bo b := hh
        rw [hh] at hv
        generalize hx : a.tmps.getD d undef = x at hv
        cases hv
        rw [Array.getD_eq_getD_getElem?] at hx
        cases ht : a.tmps[d]? with
        | none => rw [ht] at hx; cases hx
        | some y => rw [ht] at hx; have hx : y = .bool b := hx; subst hx; simp
      · cases hh
        rw [Array.getD_eq_getD_getElem?] at hv
        cases ht : a.tmps[d]? with
        | none => simp
        | some y =>
          rw [ht] at hv
          have hv : VR ρ (rd l e (toOf ds d)) y := hv
          rcases h2 with h2 | h2 <;> rw [h2] at hv <;> cases hv
          · rfl
          · cases b <;> rfl
/-- A REGION THAT DOES NOT DRAW -/
theorem elOf_ok {fl : Bool} (hF : ∀ f, F.fn f) (hro : fl = true → F.round = none) {kc : (Operand → EO) → Op → KF} (hkc : KjOk T P F m cl kc) {ops : Array Oper} {K : Ct} {Q : Exit → Act → World → Prop} : ∀ (os : List Oper) (i0 : Nat) (ds : List (Option Nat)) (l : LS) (e : Tr AV) (d : Df) (h : HP) (w : World) (ρ : Rho) (a : Act),
    (∀ j, ops[i0 + j]? = os[j]?) → runL cl K (elOf fl kc lv n ops ds os) l e d h = .yes → LR lv n ρ ds l e a.tmps → DOf fl ρ d a.defers → Good T ρ h w →
    (∀ σ e' d' h' w' a', K e' d' h' = .yes → Post T ρ h w σ h' w' → LR lv n σ [] .nil e' a'.tmps → DOf fl σ d' a'.defers → Q .normal a' w') →
    Jr F m P ops Q (List.range' i0 os.length) a w
  | [], i0, ds, l, e, d, h, w, ρ, a, hops, hy, r, hd, g, fin => j_nil (fin ρ e d h w a hy (.refl g) r.over hd)
  | o :: os, i0, ds, l, e, d, h, w, ρ, a, hops, hy, r, hd, g, fin => by
    have ho : ops[i0]? = some o := by simpa using hops 0
    have hops' : ∀ j, ops[i0 + 1 + j]? = os[j]? := fun j => by
      have := hops (j + 1)
      rw [show i0 + 1 + j = i0 + (j + 1) from by omega, this]; simp
    rw [show List.range' i0 (o :: os).length = i0 :: List.range' (i0 + 1) os.length from rfl]
    unfold elOf at hy
    cases hdo : dOk n o.dst with
    | false => rw [hdo] at hy; exact no_yes hy
    | true =>
      rw [hdo] at hy
      rcases elC_run hy with ⟨hg, hs⟩ | ⟨x, b, hg, h2, hs⟩
      · refine st_ok hF hro hkc (next := fun a1 w1 => Jr F m P ops Q (List.range' (i0 + 1) os.length) a1 w1) g (r.oo rfl) hd hs (fun v σ d' h' w' x a1 hk hp hv ht hd' => ?_) ops i0 _ Q ho ((gd_ok r).1 hg) (fun _ _ hh => hh)
        exact elOf_ok hF hro hkc os (i0 + 1) (o.dst :: ds) _ _ d' h' w' σ a1 hops' hk (by rw [ht]; exact (r.mono hp.le).dst hdo hv) hd' hp.good
          (fun τ e' d'' h'' w'' a' h1 h2 h3 h4 => fin τ e' d'' h'' w'' a' h1 (hp.trans h2) h3 h4)
      · refine j_skip ho ((gd_ok r).2 x b hg h2) (about_ok hF o a w) ?_
        exact elOf_ok hF hro hkc os (i0 + 1) (o.dst :: ds) _ _ d h w ρ (a.put o.dst undef) hops' hs (r.dst hdo .ud) (by rw [put_defers]; exact hd) g
          (fun τ e' d'' h'' w'' a' h1 h2 h3 h4 => fin τ e' d'' h'' w'' a' h1 h2 h3 h4)
/-- an operation that is no call, no message, no defer -/
theorem kF_ok (hF : ∀ f, F.fn f) : KcOk T P F m cl (kF P) := by
  intro ρ h w l e a ro K oo o next Q g hr ha hy hn
  refine ⟨about_ok hF o a w, ?_⟩
  rw [Oper.semAt_eq _ _ _ (fun c hc => by rw [hc] at hy; exact no_yes hy), execOp_congr o (fun cs b hc => by rw [hc] at hy; exact no_yes hy) ha]
  obtain ⟨v, k, σ, u, h1, ⟨h2, -⟩, h3⟩ := op_okF g hr hy
  rcases h3 with ⟨x, hv, hrun⟩ | ⟨rfl, hrun⟩
  · rw [hrun]; exact hn v σ k u x h1 h2 hv
  · rw [hrun]; exact hn .un σ k u undef h1 h2 (.un _)
end
end
end Ev
namespace Ev
noncomputable section
open Go
section
variable {T : Tb} {ρ σ : Rho} {h : HP} {w : World} {P : Program} {e : Tr AV} {lv : Nat → Bool} {n m N : Nat} {F : Fence} {cl : Cl} {D : Rho → Df → List Deferred → Prop}

/-! ### codes -/
/-- what stands behind a place of the code tells the truth -/
def KOk (T : Tb) (lv : Nat → Bool) (n : Nat) (D : Rho → Df → List Deferred → Prop) (ρ : Rho) (h : HP) (w : World) (K : Ct) (q : Act → World → Prop) : Prop :=
  ∀ σ e' d' h' w' a', K e' d' h' = .yes → Post T ρ h w σ h' w' → LR lv n σ [] .nil e' a'.tmps → D σ d' a'.defers → q a' w'
theorem KOk.post {K : Ct} {q : Act → World → Prop} {h' : HP} {w' : World} (k : KOk T lv n D ρ h w K q) (p : Post T ρ h w σ h' w') : KOk T lv n D σ h' w' K q :=
  fun τ e' d' h'' w'' a' h1 h2 => k τ e' d' h'' w'' a' h1 (p.trans h2)
def COk (T : Tb) (P : Program) (F : Fence) (m : Nat) (lv : Nat → Bool) (n N : Nat) (cl : Cl) (D : Rho → Df → List Deferred → Prop) (c : Code) (ec : EC) : Prop :=
  ∀ (X : Xs) (K : Ct) (e : Tr AV) (d : Df) (h : HP) (w : World) (ρ : Rho) (a : Act) (Q : Exit → Act → World → Prop),
    runC cl N ec X K e d h = .yes → LR lv n ρ [] .nil e a.tmps → D ρ d a.defers → Good T ρ h w →
    KOk T lv n D ρ h w K (Q .normal) → KOk T lv n D ρ h w X.rt (Q .ret) → (∀ i, KOk T lv n D ρ h w (X.ex i) (Q (.exit i))) → Jc F m P c Q a w
theorem c_skip : COk T P F m lv n N cl D .skip .skip := fun X K e d h w ρ a Q hy r hd g hK _ _ => j_of (wpIn_skip (hK ρ e d h w a hy (.refl g) r hd))
theorem c_label (l : Nat) : COk T P F m lv n N cl D (.label l) .skip := fun X K e d h w ρ a Q hy r hd g hK _ _ => j_of (wpIn_label (hK ρ e d h w a hy (.refl g) r hd))
theorem c_ret : COk T P F m lv n N cl D .ret .ret := fun X K e d h w ρ a Q hy r hd g _ hR _ => j_of (wpIn_ret (hR ρ e d h w a hy (.refl g) r hd))
theorem c_exit (i : Nat) : COk T P F m lv n N cl D (.exit i) (.exit i) := fun X K e d h w ρ a Q hy r hd g _ _ hX => j_of (wpIn_exit (hX i ρ e d h w a hy (.refl g) r hd))
theorem c_seq {a b : Code} {ea eb : EC} (ha : COk T P F m lv n N cl D a ea) (hb : COk T P F m lv n N cl D b eb) : COk T P F m lv n N cl D (.seq a b) (.seq ea eb) := by
  intro X K e d h w ρ ac Q hy r hd g hK hR hX
  refine j_seq (ha X (runC cl N eb X K) e d h w ρ ac _ hy r hd g ?_ hR hX)
  intro σ e' d' h' w' a' h1 h2 h3 h4
  exact hb X K e' d' h' w' σ a' Q h1 h3 h4 h2.good (hK.post h2) (hR.post h2) (fun i => (hX i).post h2)
theorem c_block {id : Nat} {a : Code} {ea : EC} (ha : COk T P F m lv n N cl D a ea) : COk T P F m lv n N cl D (.block id a) (.block id ea) := by
  intro X K e d h w ρ ac Q hy r hd g hK hR hX
  refine j_block (ha ⟨X.rt, exB X id K⟩ K e d h w ρ ac _ hy r hd g hK hR (fun i => ?_))
  intro σ e' d' h' w' a' h1 h2 h3 h4
  have h1 : bf (Nat.beq i id) (K e' d' h') (X.ex i e' d' h') = .yes := h1
  rw [bf_if] at h1
  show if i = id then Q .normal a' w' else Q (.exit i) a' w'
  by_cases hi : i = id
  · rw [if_pos hi]; rw [if_pos (by rw [Nat.beq_eq]; exact hi)] at h1; exact hK σ e' d' h' w' a' h1 h2 h3 h4
  · rw [if_neg hi]; rw [if_neg (by rw [Nat.beq_eq]; exact hi)] at h1; exact hX i σ e' d' h' w' a' h1 h2 h3 h4
theorem c_cond {x : Operand} {a b : Code} {ea eb : EC} (ha : COk T P F m lv n N cl D a ea) (hb : COk T P F m lv n N cl D b eb) : COk T P F m lv n N cl D (.cond x a b) (.cond (ooOf [] x) ea eb) := by
  intro X K e d h w ρ ac Q hy r hd g hK hR hX
  have hx := r.oo (a := ac) rfl x
  have hy : condV (runC cl N ea X K) (runC cl N eb X K) e d h (rd .nil e (ooOf [] x)) = .yes := hy
  unfold condV at hy
  split at hy
  · rename_i t ht
    rw [ht] at hx
    generalize hv : ac.eval x = v at hx
    cases hx
    rw [bf_if] at hy
    cases t with
    | true => exact j_cond hv (ha X K e d h w ρ ac Q hy r hd g hK hR hX)
    | false => exact j_cond hv (hb X K e d h w ρ ac Q hy r hd g hK hR hX)
  · exact no_yes hy
theorem least {p : Nat → Prop} (k : Nat) (hk : p k) : ∃ j, p j ∧ ∀ i, p i → j ≤ i := by
  induction k using Nat.strongRecOn with
  | _ k ih =>
    by_cases hx : ∃ j, j < k ∧ p j
    · obtain ⟨j, hj, hp⟩ := hx; exact ih j hj hp
    · exact ⟨k, hk, fun i hi => Nat.le_of_not_lt fun hlt => hx ⟨i, hlt, hi⟩⟩
open Classical in
noncomputable def low? (p : Nat → Prop) : Nat := if h : ∃ k, p k then Classical.choose (least h.choose h.choose_spec) else 0
theorem low?_spec {p : Nat → Prop} (k : Nat) (hk : p k) : p (low? p) ∧ ∀ i, p i → low? p ≤ i := by
  have hx : ∃ k, p k := ⟨k, hk⟩
  unfold low?
  rw [dif_pos hx]
  exact Classical.choose_spec (least hx.choose hx.choose_spec)
theorem c_loop {a : Code} {ea : EC} (ha : COk T P F m lv n N cl D a ea) : COk T P F m lv n N cl D (.loop a) (.loop ea) := by
  intro X K e d h w ρ ac Q hy r hd g _ hR hX
  have hy : loop (runC cl N ea X) N e d h = .yes := hy
  generalize hw0 : w = w0 at *
  let I : Act → World → Nat → Prop := fun a w k => ∃ σ e' d' h', loop (runC cl N ea X) k e' d' h' = .yes ∧ Post T ρ h w0 σ h' w ∧ LR lv n σ [] .nil e' a.tmps ∧ D σ d' a.defers
  refine j_loop (fun a w => ∃ k, I a w k) (fun a w => low? (I a w)) ⟨N, ρ, e, d, h, hy, .refl g, r, hd⟩ ?_
  rintro a1 w1 ⟨k, hk⟩
  obtain ⟨hlow, hmin⟩ := low?_spec k hk
  generalize hj : low? (I a1 w1) = j at hlow hmin
  obtain ⟨σ, e', d', h', h1, h2, h3, h4⟩ := hlow
  cases j with
  | zero => exact no_yes h1
  | succ j =>
    refine ha X (loop (runC cl N ea X) j) e' d' h' w1 σ a1 _ h1 h3 h4 h2.good ?_ (hR.post h2) (fun i => (hX i).post h2)
    intro τ e'' d'' h'' w'' a'' q1 q2 q3 q4
    have hI : I a'' w'' j := ⟨τ, e'', d'', h'', q1, h2.trans q2, q3, q4⟩
    exact ⟨⟨j, hI⟩, by have := (low?_spec j hI).2 j hI; omega⟩
theorem c_scope {a : Code} {ea : EC} (ha : COk T P F m lv n N cl D a ea) : COk T P F m lv n N cl D (.scope a) (.scope ea) := by
  intro X K e d h w ρ ac Q hy r hd g hK hR hX
  exact j_scope (ha X K e d h w ρ ac _ hy r hd g hK hR hX)
/-- a region that does not draw -/
theorem c_region {fl : Bool} (hF : ∀ f, F.fn f) (hro : fl = true → F.round = none) {kc : (Operand → EO) → Op → KF} (hkc : KjOk T P F m cl kc) {id : Nat} {ops : Array Oper} : COk T P F m lv n N cl (DOf fl) (.region id ops false) (.reg (elOf fl kc lv n ops [] ops.toList)) := by
  intro X K e d h w ρ a Q hy r hd g hK hR hX
  refine j_region ?_
  have := elOf_ok (n := n) (lv := lv) (Q := Q) (fl := fl) hF hro hkc (ops := ops) (K := K) ops.toList 0 [] .nil e d h w ρ a (fun j => by simp) hy r hd g
    (fun σ e' d' h' w' a' h1 h2 h3 h4 => hK σ e' d' h' w' a' h1 h2 h3 h4)
  rw [List.range_eq_range']
  simpa using this
end
end
end Ev
namespace Ev
noncomputable section
open Go
section
variable {T : Tb} {ρ σ : Rho} {h : HP} {w : World} {P : Program} {l : LS} {e : Tr AV} {lv : Nat → Bool} {n : Nat} {F : Fence} {cl : Cl}

/-! ### calls -/
/-- it returns, and the evaluator knew -/
def Ret (T : Tb) (ρ : Rho) (h : HP) (w : World) (K : Kv) (en : Ending) (w' : World) : Prop :=
  ∃ v σ h' x, en = .returned x ∧ K v h' = .yes ∧ Post T ρ h w σ h' w' ∧ VR σ v x
def IsFn (P : Program) (f : Nat) : Prop := ∀ (args : Array Value) (w : World), (callFunc f args).run P w = .ok (.enter f args) w
/-- what has no body answers at once -/
def Xok (T : Tb) (P : Program) (ρ : Rho) (h : HP) (w : World) (K : Kv) (f : Nat) (vals : Array Value) : Prop :=
  ∃ v σ h' x w', (callFunc f vals).run P w = .ok (.value x) w' ∧ K v h' = .yes ∧ Post T ρ h w σ h' w' ∧ VR σ v x
theorem IsFn.run {f : Nat} (h : IsFn P f) (args : Array Value) (w : World) : (callFunc f args).run P w = .ok (.enter f args) w := h args w
/-- what the evaluator says of calls is true -/
structure ClOk (T : Tb) (P : Program) (F : Fence) (cl : Cl) : Prop where
  f : ∀ (ρ : Rho) (h : HP) (w : World) (f : Ps) (c : CV) (K : Kv) (vals : Array Value), cl (.f f) c h K = .yes → Good T ρ h w → AL ρ c.exp vals.toList → c.wf →
    IsFn P f.idx ∧ CallsIn F 0 P f.idx vals w (Ret T ρ h w K)
  d : ∀ (ρ : Rho) (h : HP) (w : World) (f : Ps) (c : CV) (K : Kv) (vals : Array Value), cl (.d f) c h K = .yes → Good T ρ h w → AL ρ c.exp vals.toList → c.wf →
    IsFn P f.idx ∧ CallsDIn F 0 P f.idx vals .returning w (fun en u w' => u = .returning ∧ Ret T ρ h w K en w')
  x : ∀ (ρ : Rho) (h : HP) (w : World) (f : Ps) (c : CV) (K : Kv) (vals : Array Value), cl (.x f) c h K = .yes → Good T ρ h w → AL ρ c.exp vals.toList → c.wf → Xok T P ρ h w K f.idx vals
  v : ∀ (ρ : Rho) (h : HP) (w : World) (v : AV) (c : CV) (K : Kv), cl (.v v) c h K = .yes → Good T ρ h w → (∃ g a b, v = .fn g a b ∧ cl (.f g) (CL.app (CL.app b c) a) h K = .yes) ∨
    (∃ p lc, v = .yl p ∧ ρ p = some lc ∧ ∀ vals : Array Value, AL ρ c.exp vals.toList → c.wf → ∃ f tmps assign body, (Instr.yield lc.blk vals).run P w = .ok (.round lc.blk f tmps assign body) w ∧ RoundIn F 0 P lc.blk f tmps assign body w (Ret T ρ h w K))
theorem run_call_b {o : Oper} {ro : Operand → Value} {f : FuncId} {x : Operand} {args : Array Operand} {ats : Array TypeId} {xs ys : Array Value} (hop : o.op = .call { callee := .value x, args, argTypes := ats })
    (hx : ro x = .func (.func f) xs ys) (hf : IsFn P f) : (execOp ro o).run P w = .ok (.enter f (xs ++ args.map ro ++ ys)) w := by
  have e : (execOp ro o).run P w = (callFunc f (xs ++ args.map ro ++ ys)).run P w := by
    unfold execOp
    rw [hop]
    simp [resolve, Deferred.ofValue, hx, invoke]
  rw [e]; exact hf.run _ _
def calOf : Callee → Option Nat
  | .value (.func f) => some f
  | _ => none
def callOf : Op → Option (Nat × Array Operand)
  | .call c => match calOf c.callee with | some f => some (f, c.args) | none => none
  | _ => none
theorem calOf_inv {c : Callee} {f : Nat} (h : calOf c = some f) : c = .value (.func f) := by
  unfold calOf at h
  split at h
  · cases h; rfl
  · cases h
theorem callOf_inv {o : Op} {f : Nat} {args : Array Operand} (h : callOf o = some (f, args)) : ∃ ats, o = .call { callee := .value (.func f), args, argTypes := ats } := by
  cases o with
  | call c =>
    obtain ⟨ca, ar, at_⟩ := c
    have h : (match calOf ca with | some f => some (f, ar) | none => none) = some (f, args) := h
    cases hc : calOf ca with
    | none => rw [hc] at h; cases h
    | some q => rw [hc] at h; cases h; rw [calOf_inv hc]; exact ⟨_, rfl⟩
  | _ => cases h
def callvOf : Op → Option (Operand × Array Operand)
  | .call c => match dfOf c.callee with | some f => some (f, c.args) | none => none
  | _ => none
theorem callvOf_inv {o : Op} {f : Operand} {args : Array Operand} (h : callvOf o = some (f, args)) : ∃ ats, o = .call { callee := .value f, args, argTypes := ats } := by
  cases o with
  | call c =>
    obtain ⟨ca, ar, at_⟩ := c
    have h : (match dfOf ca with | some f => some (f, ar) | none => none) = some (f, args) := h
    cases hc : dfOf ca with
    | none => rw [hc] at h; cases h
    | some q => rw [hc] at h; cases h; rw [dfOf_inv hc]; exact ⟨_, rfl⟩
  | _ => cases h
def isExt (P : Program) (f : Nat) : Bool := match P.funcs[f]? with
  | some fn => fn.body.isNone
  | none => false
def kC (P : Program) (oo : Operand → EO) (o : Op) : KF :=
  match callOf o with
  | some (f, args) => bif Nat.ble f 1000000 then (bif isExt P f then kCallx (Ps.of f) (args.toList.map oo) else kCall (Ps.of f) (args.toList.map oo)) else kBad
  | none => match callvOf o with
    | some (x, args) => kCallv (oo x) (args.toList.map oo)
    | none => kF P oo o
theorem kC_ok (hF : ∀ f, F.fn f) (hdep : F.depth = none) (hcl : ClOk T P F cl) : KcOk T P F 0 cl (kC P) := by
  intro ρ h w l e a ro K oo o next Q g hr hag hy hn
  have key : ∀ (x : Operand) (args : Array Operand) (ats : Array TypeId) (gg : Ps) (c : CV) (xs ys : Array Value), o.op = .call { callee := .value x, args, argTypes := ats } → ro x = .func (.func gg.idx) xs ys →
      cl (.f gg) c h K = .yes → AL ρ c.exp (xs ++ args.map ro ++ ys).toList → c.wf → o.wpIn F 0 P a w next Q := by
    intro x args ats gg c xs ys hop hx hy ha hw
    obtain ⟨hf, hc⟩ := hcl.f ρ h w gg _ K _ hy g ha hw
    refine ⟨about_ok hF o a w, ?_⟩
    rw [Oper.semAt_eq _ _ _ (fun c hc' => by rw [hc'] at hop; cases hop), execOp_congr o (fun cs b hc' => by rw [hc'] at hop; cases hop) hag, run_call_b hop hx hf, Oper.uponIn_enter]
    refine ⟨fun hs => (by rw [hdep] at hs; cases hs), ?_⟩
    refine hc.mono (fun en w' hr' => ?_)
    obtain ⟨v, σ, h', x, rfl, h1, h2, h3⟩ := hr'
    exact hn v σ h' w' x h1 h2 h3
  unfold kC at hy
  cases hcall : callOf o.op with
  | some q =>
    obtain ⟨f, args⟩ := q
    rw [hcall] at hy
    dsimp only at hy
    obtain ⟨ats, hop⟩ := callOf_inv hcall
    cases hb : Nat.ble f 1000000 with
    | false => rw [hb] at hy; exact no_yes hy
    | true =>
      rw [hb] at hy
      have hidx : (Ps.of f).idx = f := by
        have hf : ∀ m : Nat, Nat.ble m 1000000 = true → m + 1 < 2 ^ 40 := fun m hm => by have := Nat.le_of_ble_eq_true hm; omega
        exact Ps.of_idx (hf f hb)
      obtain ⟨ha, hw⟩ := rds_map hr args.toList
      cases hx : isExt P f with
      | true =>
        rw [hx] at hy
        have hy : cl (.x (Ps.of f)) (rds l e (args.toList.map oo)) h K = .yes := hy
        obtain ⟨v, σ, h', x, w', q1, q2, q3, q4⟩ := hcl.x ρ h w (Ps.of f) _ K (args.map ro) hy g (by simpa using ha) hw
        rw [hidx] at q1
        have hrun : (execOp ro o).run P w = .ok (.value x) w' := by
          have e : (execOp ro o).run P w = (callFunc f (args.map ro)).run P w := by
            unfold execOp
            rw [hop]
            have hro : ro (.func f) = .func (.func f) #[] #[] := by rw [← hag (.func f) (by rw [hop]; simp [Op.operands, Call.operands])]; rfl
            simp [resolve, Deferred.ofValue, hro, invoke]
          rw [e]; exact q1
        refine ⟨about_ok hF o a w, ?_⟩
        rw [Oper.semAt_eq _ _ _ (fun c hc' => by rw [hc'] at hop; cases hop), execOp_congr o (fun cs b hc' => by rw [hc'] at hop; cases hop) hag, hrun]
        exact hn v σ h' w' x q2 q3 q4
      | false =>
      rw [hx] at hy
      have hy : cl (.f (Ps.of f)) (rds l e (args.toList.map oo)) h K = .yes := hy
      exact key _ args ats (Ps.of f) _ #[] #[] hop (by rw [hidx, ← hag (.func f) (by rw [hop]; simp [Op.operands, Call.operands])]; rfl) hy (by simpa using ha) hw
  | none =>
    rw [hcall] at hy
    dsimp only at hy
    cases hcv : callvOf o.op with
    | some q =>
      obtain ⟨x, args⟩ := q
      rw [hcv] at hy
      dsimp only at hy
      obtain ⟨ats, hop⟩ := callvOf_inv hcv
      have hy : cl (.v (rd l e (oo x))) (rds l e (args.toList.map oo)) h K = .yes := hy
      have hx := hr x
      rcases hcl.v ρ h w _ _ K hy g with ⟨gg, ca, cb, hv, hy⟩ | ⟨p, lc, hv, hp, hround⟩
      rotate_left
      · rw [hv] at hx
        generalize hxx : ro x = y at hx
        cases hx with
        | @yl _ lc' hp' =>
          rw [hp] at hp'; cases hp'
          obtain ⟨ha, hw⟩ := rds_map hr args.toList
          obtain ⟨f, tmps, assign, body, hyield, hR⟩ := hround (args.map ro) (by simpa using ha) hw
          have hrun : (execOp ro o).run P w = .ok (.round lc.blk f tmps assign body) w := by
            unfold execOp
            rw [hop]
            simp [resolve, Deferred.ofValue, hxx, invoke, hyield]
          refine ⟨about_ok hF o a w, ?_⟩
          rw [Oper.semAt_eq _ _ _ (fun c hc' => by rw [hc'] at hop; cases hop), execOp_congr o (fun cs b hc' => by rw [hc'] at hop; cases hop) hag, hrun, Oper.uponIn_round]
          refine ⟨fun hs => (by rw [hdep] at hs; cases hs), ?_⟩
          refine hR.mono (fun en w' hr' => ?_)
          obtain ⟨v, σ, h', x, rfl, h1, h2, h3⟩ := hr'
          exact hn v σ h' w' x h1 h2 h3
      rw [hv] at hx
      generalize hxx : ro x = y at hx
      cases hx with
      | @fn _ _ _ xs ys h1 h2 w1 w2 =>
        obtain ⟨ha, hw⟩ := rds_map hr args.toList
        refine key x args ats gg _ xs ys hop hxx hy ?_ (wf_app (wf_app w2 hw) w1)
        rw [exp_app w1, exp_app hw]
        simp only [Array.toList_append, List.append_assoc, Array.toList_map]
        exact h1.append (ha.append h2)
    | none => rw [hcv] at hy; exact kF_ok hF ρ h w l e a ro K oo o next Q g hr hag hy hn
end
end
end Ev
namespace Ev
noncomputable section
open Go Go.Conc
section
variable {T : Tb} {ρ σ : Rho} {h : HP} {w : World} {P : Program} {l : LS} {e : Tr AV} {F : Fence} {cl : Cl} {K : Kv}

/-! ### messages -/
def sel1 (x : EO) : Option Operand → Option Value → KF
  | none, some z => kSel (cvV 1000 z) x
  | _, _ => kBad
def selOf (P : Program) (oo : Operand → EO) : List SelectCase → Bool → KF
  | [c], false => sel1 (oo c.chan) c.send (zrOf P c.elem)
  | _, _ => kBad
theorem selOf_inv {oo : Operand → EO} : ∀ {l' : List SelectCase} {bl : Bool}, selOf P oo l' bl cl l e h K = .yes → ∃ c, l' = [c] ∧ bl = false ∧ sel1 (oo c.chan) c.send (zrOf P c.elem) cl l e h K = .yes
  | [], _, hy => no_yes hy
  | [c], false, hy => ⟨c, rfl, rfl, hy⟩
  | [c], true, hy => no_yes hy
  | _ :: _ :: _, _, hy => no_yes hy
def recvOf (P : Program) (k : KF) (t : TypeId) : KF := match P.underlying t with
  | some (.chan _ el) => match zrOf P el with
    | some _ => k
    | none => kBad
  | _ => kBad
theorem recvOf_inv {k : KF} {t : TypeId} (hy : recvOf P k t cl l e h K = .yes) : ∃ di el z, P.underlying t = some (.chan di el) ∧ zrOf P el = some z ∧ k cl l e h K = .yes := by
  unfold recvOf at hy
  cases hu : P.underlying t with
  | none => rw [hu] at hy; exact no_yes hy
  | some d =>
    rw [hu] at hy
    cases d with
    | chan di el =>
      dsimp only at hy
      cases hz : zrOf P el with
      | none => rw [hz] at hy; exact no_yes hy
      | some z => rw [hz] at hy; exact ⟨di, el, z, rfl, hz, hy⟩
    | _ => exact no_yes hy
def kD (P : Program) (oo : Operand → EO) (o : Op) : KF :=
  match o with
  | .send c x => kSend (oo c) (oo x)
  | .recv t c ok => recvOf P (kRecv ok (oo c)) t
  | .select cs bl => selOf P oo cs.toList bl
  | o => kC P oo o
theorem shut_at (g : Good T ρ h w) {a : Ps} {cap s r : Nat} {b : CV} (he : h.get a = .shut cap b s r) : ∃ lc arr, ρ a = some lc ∧ w.heap[lc.blk]? = some (.chan cap arr true s r false) ∧ AL ρ b.exp arr.toList ∧ b.wf := by
  obtain ⟨lc, o, hl, ho, hb⟩ := g.blk a (by unfold HP.live; rw [he]; intro h; cases h)
  rw [he] at hb
  cases hb with
  | shut hm hw => exact ⟨lc, _, hl, ho, hm, hw⟩
theorem live_of {a : Ps} {b : AB} (he : h.get a = b) (hb : b ≠ .dead) : h.live a := by unfold HP.live; rw [he]; exact hb
/-- the first of a buffer -/
theorem buf_first {v : AV} {b : CV} {arr : Array Value} (ha : AL ρ (CL.c v b).exp arr.toList) : 0 < arr.size ∧ VR ρ v (arr.getD 0 undef) ∧ AL ρ b.exp (arr.extract 1 arr.size).toList := by
  have ha : AL ρ (v :: b.exp) arr.toList := ha
  obtain ⟨l⟩ := arr
  simp only at ha
  cases ha with
  | @cons _ x _ xs hv ht =>
    refine ⟨by simp, ?_, ?_⟩
    · simpa using hv
    · simpa using ht
theorem kD_ok (hF : ∀ f, F.fn f) (hdep : F.depth = none) (hro : F.round = none) (hcl : ClOk T P F cl) : KjOk T P F 0 cl (kD P) := by
  intro ρ h w l e a K oo o next g hr hy hn
  have hC : kC P oo o.op cl l e h K = .yes → Jop F 0 P o a w next := fun hy => jop_of (kC_ok hF hdep hcl ρ h w l e a a.eval K oo o next _ g hr (fun _ _ => rfl) hy hn)
  cases hop : o.op with
  | send c x =>
    rw [hop] at hy
    have hy : vSend h K (rd l e (oo x)) (rd l e (oo c)) = .yes := hy
    have hx := hr x
    have hc := hr c
    unfold vSend at hy
    split at hy
    · rename_i p hp
      rw [hp] at hc
      generalize hcv : a.eval c = cv at hc
      cases hc with
      | @ch _ lc hl =>
      unfold vSendB at hy
      split at hy
      · rename_i cap b s r he
        obtain ⟨h1, hy⟩ := bf_yes' hy
        obtain ⟨lc', arr, hl', ho, ha, hw⟩ := chan_at g he
        rw [hl] at hl'; cases hl'
        have hsz : arr.size = b.exp.length := by have := ha.length; simpa using this.symm
        have h1 : b.len + 1 ≤ cap := by simpa using h1
        rw [exp_len] at h1
        have hAL : AL ρ (CL.app (.c (rd l e (oo x)) .nil) b).exp (arr.push (a.eval x)).toList := by
          rw [exp_app hw]
          simp only [Array.toList_push]
          exact ha.append (.cons hx .nil)
        have hp := Post.put (n := w.drawn) g (live_of he (by simp)) hl (BR.chan (cap := cap) (s := s + 1) (r := r) hAL (wf_app (c := b) (s := .c (rd l e (oo x)) .nil) trivial hw))
        exact jop_comm hro (about_ok hF o a w) (v := undef) (w2 := w.setChan lc.blk cap (arr.push (a.eval x)) false (s + 1) r false)
          (by unfold execOp; rw [hop]; rfl) (fun fr cs es hg => step_lone_send_room (c := lc.blk) (z' := .tuple #[]) (v := a.eval x) (by rw [hg, hcv]; rfl) ho (by omega)) (hn _ ρ _ _ _ hy hp (.un _))
      · exact no_yes hy
    · exact no_yes hy
  | recv t c ok =>
    rw [hop] at hy
    obtain ⟨di, el, z, hu, hz, hy⟩ := recvOf_inv hy
    · · have hy : vRecv h K ok (rd l e (oo c)) = .yes := hy
        have hc := hr c
        unfold vRecv at hy
        split at hy
        · rename_i p hp
          rw [hp] at hc
          generalize hcv : a.eval c = cv at hc
          cases hc with
          | @ch _ lc hl =>
          have hrun : (execOp a.eval o).run P w = .ok (.comm #[rcase lc.blk z] true (.recv ok)) w := by
            unfold execOp; rw [hop]; simp [run_und hu, run_zero hz, hcv, rcase]
          have hpair : ∀ v x, VR ρ v x → VR ρ (pair ok v true) (got ok x true) := fun v x hv => by
            cases ok with
            | true => exact .tu (c := .c v (.c (.bo true) .nil)) (xs := #[x, .bool true]) (.cons hv (.cons (.bo _) .nil)) trivial
            | false => exact hv
          unfold vRecvB at hy
          split at hy
          · rename_i cap v b s r he
            obtain ⟨lc', arr, hl', ho, ha, hw⟩ := chan_at g he
            rw [hl] at hl'; cases hl'
            obtain ⟨b1, b2, b3⟩ := buf_first ha
            have hp := Post.put (n := w.drawn) g (live_of he (by simp)) hl (BR.chan (cap := cap) (s := s) (r := r + 1) b3 hw)
            exact jop_comm hro (about_ok hF o a w) (v := got ok (arr.getD 0 undef) true) (w2 := w.setChan lc.blk cap (arr.extract 1 arr.size) false s (r + 1) false) hrun
              (fun fr cs es hg => step_lone_recv_buf ok hg ho b1) (hn _ ρ _ _ _ hy hp (hpair _ _ b2))
          · rename_i cap v b s r he
            obtain ⟨lc', arr, hl', ho, ha, hw⟩ := shut_at g he
            rw [hl] at hl'; cases hl'
            obtain ⟨b1, b2, b3⟩ := buf_first ha
            have hp := Post.put (n := w.drawn) g (live_of he (by simp)) hl (BR.shut (cap := cap) (s := s) (r := r + 1) b3 hw)
            exact jop_comm hro (about_ok hF o a w) (v := got ok (arr.getD 0 undef) true) (w2 := w.setChan lc.blk cap (arr.extract 1 arr.size) true s (r + 1) false) hrun
              (fun fr cs es hg => step_lone_recv_buf ok hg ho b1) (hn _ ρ _ _ _ hy hp (hpair _ _ b2))
          · exact no_yes hy
        · exact no_yes hy
  | select cs bl =>
    rw [hop] at hy
    have hy : selOf P oo cs.toList bl cl l e h K = .yes := hy
    obtain ⟨c, hcs, rfl, hy1⟩ := selOf_inv hy
    clear hy
    · have hcs : cs = #[c] := by rw [← Array.toArray_toList (xs := cs), hcs]
      subst hcs
      have hsel : ∃ z, c.send = none ∧ zrOf P c.elem = some z ∧ kSel (cvV 1000 z) (oo c.chan) cl l e h K = .yes := by
        cases h1 : c.send with
        | some x => rw [h1] at hy1; exact no_yes hy1
        | none =>
          cases h2 : zrOf P c.elem with
          | none => rw [h1, h2] at hy1; exact no_yes hy1
          | some z => rw [h1, h2] at hy1; exact ⟨z, rfl, rfl, hy1⟩
      obtain ⟨z, hsend, hz, hy⟩ := hsel
      · have hy : vSel h K (cvV 1000 z) (rd l e (oo c.chan)) = .yes := hy
        have hc := hr c.chan
        unfold vSel at hy
        split at hy
        · rename_i p hp
          rw [hp] at hc
          generalize hcv : a.eval c.chan = cv at hc
          cases hc with
          | @ch _ lc hl =>
          have hrun : (execOp a.eval o).run P w = .ok (.comm #[rcase lc.blk z] false .select) w := by
            unfold execOp; rw [hop]; simp [run_zero hz, hcv, hsend, rcase]
          have htri : ∀ (n : Int) (v : AV) (x : Value) (bb : Bool), VR ρ v x → VR ρ (.tu (.c (.nt .i64 n) (.c (.bo bb) (.c v .nil)))) (.tuple #[.int .i64 n, .bool bb, x]) := fun n v x bb hv =>
            .tu (c := .c (.nt .i64 n) (.c (.bo bb) (.c v .nil))) (xs := #[.int .i64 n, .bool bb, x]) (.cons (.nt _ _) (.cons (.bo _) (.cons hv .nil))) trivial
          unfold vSelB at hy
          split at hy
          · rename_i cap v b s r he
            obtain ⟨lc', arr, hl', ho, ha, hw⟩ := chan_at g he
            rw [hl] at hl'; cases hl'
            obtain ⟨b1, b2, b3⟩ := buf_first ha
            have hp := Post.put (n := w.drawn) g (live_of he (by simp)) hl (BR.chan (cap := cap) (s := s) (r := r + 1) b3 hw)
            exact jop_comm hro (about_ok hF o a w) (v := .tuple #[goInt 0, .bool true, arr.getD 0 undef]) (w2 := w.setChan lc.blk cap (arr.extract 1 arr.size) false s (r + 1) false) hrun
              (fun fr cs es hg => step_lone_select_recv_buf hg ho b1) (hn _ ρ _ _ _ hy hp (htri 0 _ _ _ b2))
          · rename_i cap v b s r he
            obtain ⟨lc', arr, hl', ho, ha, hw⟩ := shut_at g he
            rw [hl] at hl'; cases hl'
            obtain ⟨b1, b2, b3⟩ := buf_first ha
            have hp := Post.put (n := w.drawn) g (live_of he (by simp)) hl (BR.shut (cap := cap) (s := s) (r := r + 1) b3 hw)
            exact jop_comm hro (about_ok hF o a w) (v := .tuple #[goInt 0, .bool true, arr.getD 0 undef]) (w2 := w.setChan lc.blk cap (arr.extract 1 arr.size) true s (r + 1) false) hrun
              (fun fr cs es hg => step_lone_select_recv_buf hg ho b1) (hn _ ρ _ _ _ hy hp (htri 0 _ _ _ b2))
          · rename_i cap s r he
            obtain ⟨lc', arr, hl', ho, ha, hw⟩ := chan_at g he
            rw [hl] at hl'; cases hl'
            have harr : arr = #[] := by
              have := ha.length
              exact Array.eq_empty_of_size_eq_zero (by rw [← Array.length_toList, ← this]; rfl)
            subst harr
            exact jop_comm hro (about_ok hF o a w) (v := .tuple #[goInt (-1), .bool false, z]) (w2 := w) hrun
              (fun fr cs es hg => step_lone_select_default hg ho) (hn _ ρ _ _ _ hy (.refl g) (htri _ _ _ _ (cvV_ok _ _)))
          · exact no_yes hy
        · exact no_yes hy
  | _ => exact hC (by rw [hop] at hy ⊢; exact hy)
end
end
end Ev
namespace Ev
noncomputable section
open Go Go.Conc
section
variable {P : Program} {F : Fence} {n : Nat} {w : World}

/-! ### ranges over functions: a round -/
theorem roundIn_of_j {l : Nat} {f : FuncId} {tmps : Array Value} {assign body : Code} {R : Ending → World → Prop} (hF : F.fn f)
    (h : Jc (F.inRound l) n P assign (Exit.then (fun a1 w1 => ∃ w2, (Instr.beginRound l).run P w1 = .ok () w2 ∧ Jc (F.inRound l) n P body (roundPost P l R) a1 w2) (fun _ _ _ => False)) { tmps := tmps, defers := [] } w) :
    RoundIn F n P l f tmps assign body w R := by
  refine ⟨hF, fun c cs hr => ?_⟩
  let b : Frame := { (default : Frame) with fn := f, kind := .normal, roundOf := some l }
  have hen : Frame.round l f tmps assign body .normal = b.atR { tmps := tmps, defers := [] } [.code assign, .beginRound, .code body] := by simp [Frame.round, Frame.atR, b]
  have hF' : (F.inRound l).fn b.fn := hF
  have hr' : (F.inRound l).room ((c :: cs).length + 1 + n) := hr
  obtain ⟨e, a1, w1, q, ar⟩ := h b [.beginRound, .code body] (c :: cs) (by simp [b]) rfl hF' hr'
  rw [← hen] at ar
  cases e with
  | normal =>
    obtain ⟨w2, hb, q⟩ := q
    have st : StepsIn (Machine.fenced P (F.inRound l)) P (lone (b.atR a1 [.beginRound, .code body]) (c :: cs) w1) (lone (b.atR a1 [.code body]) (c :: cs) w2) :=
      .one (fenced_calm (fr := b.atR a1 [.beginRound, .code body]) hF' hr' rfl) (stepR_beginRound rfl hb)
    have st := StepsIn.trans ar st
    obtain ⟨e2, a2, w3, q2, ar2⟩ := q b [] (c :: cs) (by simp [b]) rfl hF' hr'
    cases e2 with
    | normal =>
      obtain ⟨v, w4, hend, hR⟩ := q2
      exact ⟨.returned v, w4, hR, st.trans (StepsIn.trans ar2 (.one (fenced_calm (fr := b.atR a2 []) hF' hr' rfl) (stepR_round_end rfl rfl hend)))⟩
    | ret =>
      obtain ⟨v, w4, hend, hR⟩ := q2
      obtain ⟨k1, hs⟩ := ar2.2 rfl
      exact ⟨.returned v, w4, hR, st.trans (StepsIn.trans hs (.one (fenced_calm (fr := b.atR a2 (.code .ret :: k1)) hF' hr' rfl) (stepR_round_ret rfl rfl hend)))⟩
    | exit id =>
      obtain ⟨v, w4, hend, hR⟩ := q2
      obtain ⟨k1, hk, hs⟩ := ar2.2 rfl rfl
      exact ⟨.returned v, w4, hR, st.trans (StepsIn.trans hs (.one (fenced_calm (fr := b.atR a2 (.code (.exit id) :: k1)) hF' hr' rfl) (stepR_round_exit rfl rfl hk hend)))⟩
    | goto t =>
      obtain ⟨v, w4, hend, hR⟩ := q2
      obtain ⟨k1, hk, hs⟩ := ar2.2 rfl rfl
      exact ⟨.returned v, w4, hR, st.trans (StepsIn.trans hs (.one (fenced_calm (fr := b.atR a2 (.code (.goto t) :: k1)) hF' hr' rfl) (stepR_round_goto rfl rfl hk hend)))⟩
    | panic ch => exact absurd q2 id
    | outgrown => exact absurd q2 id
  | _ => exact absurd q id
end
end
end Ev
namespace Ev
noncomputable section
open Go
section
variable {T : Tb} {ρ σ : Rho} {h : HP} {w : World} {P : Program} {lv : Nat → Bool} {n : Nat}

/-! ### a frame's beginning -/
theorem succ_idx (p : Ps) : p.succ.idx = p.idx + 1 := by
  unfold Ps.idx
  rw [Ps.num_succ]
  have := p.num_pos
  omega
theorem args0_rel {V : Nat → Value} : ∀ (xs : CV) (vals : List Value) (p : Ps) (e : Tr AV), AL ρ xs.exp vals → (∀ j (hj : j < vals.length), V (p.idx + j) = vals[j]) → (∀ q : Ps, VR ρ (Tr.get .un q e) (V q.idx)) →
    ∀ q : Ps, VR ρ (Tr.get .un q (args0 xs p e)) (V q.idx)
  | .nil, vals, p, e, _, _, H => H
  | .b _ _ _, vals, p, e, _, _, H => H
  | .c v r, vals, p, e, ha, hV, H => by
    have ha : AL ρ (v :: r.exp) vals := ha
    cases ha with
    | @cons _ x _ xs hv ht =>
      refine args0_rel r xs p.succ (Tr.set .un v p e) ht (fun j hj => ?_) (fun q => ?_)
      · have := hV (j + 1) (by simpa using hj)
        rw [succ_idx, show p.idx + 1 + j = p.idx + (j + 1) from by omega, this]; simp
      · rw [get_set]
        split
        · rename_i hq
          rw [hq]
          have := hV 0 (by simp)
          rw [Nat.add_zero] at this
          rw [this]; exact hv
        · exact H q
theorem args0_un : ∀ (xs : CV) (p : Ps) (e : Tr AV) (q : Ps), p.num + xs.exp.length ≤ q.num → Tr.get .un q (args0 xs p e) = Tr.get .un q e
  | .nil, p, e, q, _ => rfl
  | .b _ _ _, p, e, q, _ => rfl
  | .c v r, p, e, q, hq => by
    have hq : p.num + (r.exp.length + 1) ≤ q.num := hq
    show Tr.get .un q (args0 r p.succ (Tr.set .un v p e)) = _
    rw [args0_un r p.succ (Tr.set .un v p e) q (by rw [Ps.num_succ]; omega), get_set, if_neg (fun h => by rw [h] at hq; omega)]
theorem get_leaf (q : Ps) : Tr.get AV.un q .e = .un := by cases q <;> rfl
/-- THE FRAME OF A CALL -/
theorem LR.enter {xs : CV} {args : Array Value} {np : Nat} (ha : AL ρ xs.exp args.toList) (hs : args.size ≤ n) (hlv : ∀ t, lv t = false → xs.exp.length ≤ t) :
    LR lv n ρ [] .nil (args0 xs .h .e) (args ++ Array.replicate (n - args.size) undef) := by
  have hun : ∀ t, VR ρ (Tr.get .un (Ps.of t) (args0 xs .h .e)) ((args ++ Array.replicate (n - args.size) undef).getD (Ps.of t).idx undef) := fun t =>
    args0_rel (V := fun i => (args ++ Array.replicate (n - args.size) undef).getD i undef) xs args.toList .h .e ha (fun j hj => by
      have hj : j < args.size := by simpa using hj
      show (args ++ _).getD (0 + j) undef = _
      rw [Nat.zero_add, Array.getD_eq_getD_getElem?, Array.getElem?_append_left hj]
      simp [hj]) (fun q => by rw [get_leaf]; exact .un _) (Ps.of t)
  have h0 : ∀ t, rd LS.nil (args0 xs .h .e) (toOf [] t) = (if t ≤ 1000000 then Tr.get .un (Ps.of t) (args0 xs .h .e) else .un) := fun t => by
    unfold toOf
    show rd LS.nil _ (bif Nat.ble t 1000000 then .t (Ps.of t) else .k .un) = _
    cases hb : Nat.ble t 1000000 with
    | true => rw [if_pos (Nat.le_of_ble_eq_true hb)]; rfl
    | false => rw [if_neg (fun h => by rw [Nat.ble_eq_true_of_le h] at hb; cases hb)]; rfl
  refine ⟨fun t => ?_, fun t h1 h2 => by rw [h0, if_pos h1], fun t h1 h2 => ?_, by simp; omega⟩
  · rw [h0]
    split
    · rename_i h1
      have := hun t
      rwa [Ps.of_idx (by omega)] at this
    · exact .un _
  · rw [args0_un _ _ _ _ (by
      rw [Ps.of_num (by omega)]
      have := hlv t h2
      show 1 + _ ≤ _; omega), get_leaf]
end
end
end Ev
namespace Ev
noncomputable section
open Go
section
variable {T : Tb} {ρ σ : Rho} {h : HP} {w : World} {P : Program} {lv : Nat → Bool} {n : Nat} {e : Tr AV} {tm : Array Value}

/-! ### a function's results -/
def rvOf (P : Program) : ResultVar → Option (Ps × Option (Nat × Bool))
  | .tmp t => bif Nat.ble t 1000000 then some (Ps.of t, none) else none
  | .cell a t => match P.underlying t, szOf P t with
    | some d, some m => bif Nat.ble a 1000000 then some (Ps.of a, some (m, TypeDesc.ag d)) else none
    | _, _ => none
def rvsOf (P : Program) : List ResultVar → Option (List (Ps × Option (Nat × Bool)))
  | [] => some []
  | r :: rs => match rvOf P r, rvsOf P rs with
    | some q, some qs => some (q :: qs)
    | _, _ => none
def rvRun (tm : Array Value) : ResultVar → Sem Value
  | .tmp t => pure (tm.getD t undef)
  | .cell a t => do loadVar t (← asAddr (tm.getD a undef))
theorem LR.at (r : LR lv n ρ [] .nil e tm) {t : Nat} (ht : Nat.ble t 1000000 = true) : VR ρ (Tr.get .un (Ps.of t) e) (tm.getD t undef) := by
  have := r.rel t
  unfold toOf at this
  have h2 : rd LS.nil e (bif Nat.ble t 1000000 then .t (Ps.of t) else .k .un) = Tr.get .un (Ps.of t) e := by rw [ht]; rfl
  rw [← h2]; exact this
def CL.flat : CV → Prop
  | .nil => True | .c _ r => CL.flat r | .b _ _ _ => False
theorem resv_ok (g : Good T ρ h w) (r : LR lv n ρ [] .nil e tm) : ∀ (rs : List ResultVar) (pl : List (Ps × Option (Nat × Bool))) (K : CV → R), rvsOf P rs = some pl → resv h e K pl = .yes →
    ∃ c vs, K c = .yes ∧ AL ρ c.exp vs ∧ (c.wf ∧ CL.flat c) ∧ (rs.mapM (rvRun tm)).run P w = .ok vs w
  | [], pl, K, hp, hk => by cases hp; exact ⟨.nil, [], hk, .nil, ⟨trivial, trivial⟩, rfl⟩
  | rv :: rs, pl, K, hp, hk => by
    unfold rvsOf at hp
    split at hp
    · rename_i q qs hq hqs
      cases hp
      cases rv with
      | tmp t =>
        have hq : (bif Nat.ble t 1000000 then some (Ps.of t, none) else none) = some q := hq
        cases hb : Nat.ble t 1000000 with
        | false => rw [hb] at hq; cases hq
        | true =>
          rw [hb] at hq; cases hq
          obtain ⟨c, vs, h1, h2, h3, h4⟩ := resv_ok g r rs qs (fun c => K (.c (Tr.get .un (Ps.of t) e) c)) hqs hk
          exact ⟨_, _, h1, .cons (r.at hb) h2, h3, by simp [List.mapM_cons, rvRun, h4]⟩
      | cell a t =>
        unfold rvOf at hq
        dsimp only at hq
        split at hq
        · rename_i d m hu hs
          cases hb : Nat.ble a 1000000 with
          | false => rw [hb] at hq; cases hq
          | true =>
            rw [hb] at hq; cases hq
            have hv := r.at hb
            have hk : resP h m (TypeDesc.ag d) (fun v => resv h e (fun c => K (.c v c)) qs) (Tr.get .un (Ps.of a) e) = .yes := hk
            unfold resP at hk
            split at hk
            · rename_i p off hpo
              rw [hpo] at hv
              generalize hx : tm.getD a undef = x at hv
              cases hv with
              | @pt _ l _ hl =>
                rw [bf_if] at hk
                split at hk
                · rename_i hag
                  obtain ⟨c, l', xs, hk, hl', hc, hw, hlen, hr⟩ := lds_ok (P := P) g hk
                  rw [hl] at hl'; cases hl'
                  obtain ⟨c', vs, h1, h2, h3, h4⟩ := resv_ok g r rs qs _ hqs hk
                  exact ⟨_, _, h1, .cons (.ag (xs := xs.toArray) (by simpa using hc) hw) h2, h3, by simp [List.mapM_cons, rvRun, hx, asAddr, loadVar, run_agg hu, hag, run_size hs, hr, h4]⟩
                · rename_i hag
                  obtain ⟨hn, hk⟩ := okv_inv hk
                  obtain ⟨l', y, hl', hy, hc⟩ := ldc_ok g rfl hn
                  rw [hl] at hl'; cases hl'
                  obtain ⟨c', vs, h1, h2, h3, h4⟩ := resv_ok g r rs qs _ hqs hk
                  exact ⟨_, _, h1, .cons hy h2, h3, by simp [List.mapM_cons, rvRun, hx, asAddr, loadVar, run_agg hu, hag, run_load, hc, h4]⟩
            · exact no_yes hk
        · cases hq
    · cases hp
theorem ret1_ok {K : Kv} {c : CV} {vs : List Value} (hk : ret1 h K c = .yes) (ha : AL ρ c.exp vs) (hw : c.wf ∧ CL.flat c) : ∃ v, K v h = .yes ∧ VR ρ v (if hs : vs.toArray.size = 1 then vs.toArray[0] else .tuple vs.toArray) := by
  cases c with
  | nil => cases ha; exact ⟨_, hk, .tu (xs := #[]) .nil trivial⟩
  | b a d r => exact absurd hw.2 id
  | c v r =>
    have ha : AL ρ (v :: r.exp) vs := ha
    cases ha with
    | @cons _ x _ xs hv ht =>
      cases r with
      | nil => cases ht; exact ⟨v, hk, hv⟩
      | b a d r => exact absurd hw.2 id
      | c u r =>
        have ht' : AL ρ (u :: r.exp) xs := ht
        cases ht' with
        | @cons _ y _ ys hy hz =>
          refine ⟨_, hk, ?_⟩
          rw [dif_neg (by simp)]
          exact .tu (xs := (x :: y :: ys).toArray) (.cons hv (.cons hy hz)) hw.1
/-- the results, once the deferred calls are done -/
theorem res_run {fn : Func} {pl : List (Ps × Option (Nat × Bool))} {K : Kv} (hres : rvsOf P fn.results.toList = some pl) (g : Good T ρ h w) (r : LR lv n ρ [] .nil e tm) (hk : resv h e (fun c => ret1 h K c) pl = .yes) :
    ∃ v, (results fn tm).run P w = .ok v w ∧ ∃ u, K u h = .yes ∧ VR ρ u v := by
  obtain ⟨cv, vs, k1, k2, k3, k4⟩ := resv_ok g r fn.results.toList pl _ hres hk
  obtain ⟨v, q1, q2⟩ := ret1_ok k1 k2 k3
  refine ⟨_, ?_, v, q1, q2⟩
  have e1 : results fn tm = (do let vs ← fn.results.mapM (rvRun tm); pure (if h : vs.size = 1 then vs[0] else .tuple vs)) := by
    have hfun : ∀ q : ResultVar → Sem Value, q = rvRun tm → (do let vs ← fn.results.mapM q; pure (if h : vs.size = 1 then vs[0] else Value.tuple vs)) = (do let vs ← fn.results.mapM (rvRun tm); pure (if h : vs.size = 1 then vs[0] else .tuple vs)) := by rintro _ rfl; rfl
    exact hfun _ (by funext x; cases x <;> rfl)
  rw [e1, Array.mapM_eq_mapM_toList]
  simp [k4]
/-- a block is given up -/
theorem Post.kill (g : Good T ρ h w) {a : Ps} {l : Loc} (hl : h.live a) (ea : ρ a = some l) {o : Obj} : Post T ρ h w ρ (h.put a .dead) { w with heap := w.heap.setIfInBounds l.blk o } := by
  have hlt : l.blk < w.heap.size := by
    obtain ⟨l', o', e', ho', _⟩ := g.blk a hl
    rw [ea] at e'; cases e'
    exact (Array.getElem?_eq_some_iff.1 ho').1
  have hlive : ∀ i, (h.put a .dead).live i → i ≠ a ∧ h.live i := fun i hi => by
    unfold HP.live at *
    rw [get_put] at hi
    by_cases hia : i = a
    · rw [if_pos hia] at hi; exact absurd rfl hi
    · rw [if_neg hia] at hi; exact ⟨hia, hi⟩
  have hget : ∀ i, i ≠ a → (h.put a .dead).get i = h.get i := fun i hi => by rw [get_put, if_neg hi]
  refine ⟨Rho.le_refl _, ⟨fun i hi => ?_, fun i j l1 l2 h1 h2 e1 e2 e3 => g.inj i j l1 l2 (hlive i h1).2 (hlive j h2).2 e1 e2 e3, fun i l' e => g.dom i l' e⟩, Nat.le_refl _, fun _ _ e _ => e, by simp, fun r hr hf => ?_, fun i l' hi e => .inl ⟨i, l', (hlive i hi).2, e, rfl⟩, rfl, rfl, rfl⟩
  · obtain ⟨hia, hli⟩ := hlive i hi
    obtain ⟨l', o', e', ho', hb⟩ := g.blk i hli
    refine ⟨l', o', e', ?_, by rw [hget i hia]; exact hb⟩
    have hne : l.blk ≠ l'.blk := fun hh => hia (g.inj i a l' l hli hl e' ea hh.symm)
    simp [Array.getElem?_setIfInBounds_ne hne, ho']
  · have hne : l.blk ≠ r := hf a l hl ea
    simp [Array.getElem?_setIfInBounds_ne hne]
theorem defs_at (g : Good T ρ h w) {p : Ps} (he : h.get p = .defs) : ∃ lc, ρ p = some lc ∧ w.heap[lc.blk]? = some (.deferred (some [])) := by
  obtain ⟨lc, o, hl, ho, hb⟩ := g.blk p (by unfold HP.live; rw [he]; intro h; cases h)
  rw [he] at hb
  cases hb with
  | defs => exact ⟨lc, hl, ho⟩
theorem close_eq {ts : Array TypeId} {ty : TypeId} {r : Nat} : ∃ m : String, Builtin.close_ ts ty #[.chan (some r)] = (do
    let .chan room buf closed sent received timer ← getObj r | stuck m
    if closed then runtimePanic (.plain "close of closed channel")
    setObj r (.chan room buf true sent received timer)
    pure (.tuple #[])) := ⟨_, rfl⟩
/-- deferred calls -/
theorem lv_ok {F : Fence} {cl : Cl} {fn : Func} {Re : Ending → World → Prop} {Kf : HP → R} (hF : ∀ f, F.fn f) (hdep : F.depth = none) (hcl : ClOk T P F cl) : ∀ (d : Df) (l : List Deferred) (ρ : Rho) (h : HP) (w : World),
    dfs cl Kf d h = .yes → DRel ρ d l → Good T ρ h w → (∀ σ h' w', Kf h' = .yes → Post T ρ h w σ h' w' → ∃ v, (results fn tm).run P w' = .ok v w' ∧ Re (.returned v) w') → LvJ F P fn tm Re l w
  | [], l, ρ, h, w, hy, hd, g, hk => by cases hd; exact hk ρ h w hy (.refl g)
  | .f f xs :: d, l, ρ, h, w, hy, hd, g, hk => by
    cases hd with
    | @cons _ dd _ l hq ht =>
      cases hq with
      | @f _ _ cap dargs h2 hw =>
      have hy : cl (.d f) xs h (fun _ h => dfs cl Kf d h) = .yes := hy
      obtain ⟨hf, hc⟩ := hcl.d ρ h w f xs _ _ hy g h2 hw
      refine .inr (.inr ⟨_, _, f.idx, dargs ++ cap, rfl, by exact hf.run (dargs ++ cap) w, hc.mono fun en u w' hr => ?_⟩)
      obtain ⟨rfl, v, σ, h', x, rfl, q1, q2, q3⟩ := hr
      exact ⟨rfl, x, rfl, lv_ok hF hdep hcl d l σ h' w' q1 (ht.mono q2.le) q2.good (fun τ h'' w'' p1 p2 => hk τ h'' w'' p1 (q2.trans p2))⟩
  | .cl v :: d, l, ρ, h, w, hy, hd, g, hk => by
    cases hd with
    | @cons _ dd _ l hq ht =>
      cases hq with
      | @cl _ x ts ty cs hv =>
      have hy : vClose h (dfs cl Kf d) v = .yes := hy
      unfold vClose at hy
      split at hy
      · rename_i p
        unfold vCloseB at hy
        split at hy
        · rename_i cap b s r he
          obtain ⟨lc, arr, hl, ho, ha, hw⟩ := chan_at g he
          cases hv with
          | ch hl' =>
          rw [hl] at hl'; cases hl'
          have hp := Post.put (n := w.drawn) g (by unfold HP.live; rw [he]; intro h; cases h) hl (BR.shut (cap := cap) (s := s) (r := r) ha hw)
          refine .inr (.inl ⟨_, _, _, _, .tuple #[], _, rfl, ?_, lv_ok hF hdep hcl d l ρ _ _ hy ht hp.good (fun τ h'' w'' p1 p2 => hk τ h'' w'' p1 (hp.trans p2))⟩)
          obtain ⟨m, hm⟩ := close_eq (ts := ts) (ty := ty) (r := lc.blk)
          rw [show invoke (.builtin .close ts ty cs) #[.chan (some lc.blk)] = (do pure (.value (← Builtin.close_ ts ty #[.chan (some lc.blk)]))) from rfl, hm]
          simp [run_getObj ho (by simp), run_setObj ho (by simp)]
        · exact no_yes hy
      · exact no_yes hy
  | .mk p :: d, l, ρ, h, w, hy, hd, g, hk => by
    cases hd with
    | @cons _ dd _ l hq ht =>
      cases hq with
      | @mk _ lc hl =>
      have hy : mkB (dfs cl Kf d (h.put p .dead)) (h.get p) = .yes := hy
      unfold mkB at hy
      split at hy
      · rename_i he
        obtain ⟨lc', hl', ho⟩ := defs_at g he
        rw [hl] at hl'; cases hl'
        have hp := Post.kill (o := .deferred none) g (by unfold HP.live; rw [he]; intro h; cases h) hl
        refine .inl ⟨_, _, rfl, ?_, lv_ok hF hdep hcl d l ρ _ _ hy ht hp.good (fun τ h'' w'' p1 p2 => hk τ h'' w'' p1 (hp.trans p2))⟩
        simp [Instr.takeDeferred, run_getObj ho (by simp), run_setObj ho (by simp)]
      · exact no_yes hy
/-- A FUNCTION WITHOUT DEFERS -/
theorem fn_body {F : Fence} {cl : Cl} {N : Nat} {fn : Func} {c : Code} {ec : EC} {pl : List (Ps × Option (Nat × Bool))}
    (hc : COk T P F 0 lv fn.ntmps N cl (DOf false) c ec) (hres : rvsOf P fn.results.toList = some pl) {xs : CV} {vals : Array Value} {K : Kv}
    (hy : runC cl N ec (bodyX cl pl K) (fin cl pl K) (args0 xs .h .e) [] h = .yes) (g : Good T ρ h w) (ha : AL ρ xs.exp vals.toList) (hs : vals.size ≤ fn.ntmps) (hlv : ∀ t, lv t = false → xs.exp.length ≤ t) :
    Jc F 0 P c (bodyPost P fn (Ret T ρ h w K)) { tmps := vals ++ Array.replicate (fn.ntmps - vals.size) undef, defers := [] } w := by
  have hfin : KOk T lv fn.ntmps (DOf false) ρ h w (fin cl pl K) (fun a w' => a.defers = [] ∧ ∃ v, (results fn a.tmps).run P w' = .ok v w' ∧ Ret T ρ h w K (.returned v) w') := by
    intro σ e' d' h' w' a' h1 h2 h3 h4
    obtain ⟨rfl, hd⟩ := h4
    refine ⟨hd, ?_⟩
    have h1 : resv h' e' (fun c => ret1 h' K c) pl = .yes := h1
    obtain ⟨v, q1, u, q2, q3⟩ := res_run hres h2.good h3 h1
    exact ⟨v, q1, u, σ, h', v, rfl, q2, h2, q3⟩
  refine hc (bodyX cl pl K) (fin cl pl K) (args0 xs .h .e) [] h w ρ _ _ hy (LR.enter (np := 0) ha hs hlv) ⟨rfl, rfl⟩ g hfin hfin (fun i => ?_)
  intro σ e' d' h' w' a' h1
  exact no_yes h1
/-- A FUNCTION WITH DEFERS -/
theorem fn_bodyD {F : Fence} {cl : Cl} {N : Nat} {fn : Func} {c : Code} {ec : EC} {pl : List (Ps × Option (Nat × Bool))} (hF : ∀ f, F.fn f) (hdep : F.depth = none) (hcl : ClOk T P F cl)
    (hc : COk T P F 0 lv fn.ntmps N cl (DOf true) c ec) (hres : rvsOf P fn.results.toList = some pl) {xs : CV} {vals : Array Value} {K : Kv}
    (hy : runC cl N ec (bodyX cl pl K) (fin cl pl K) (args0 xs .h .e) [] h = .yes) (g : Good T ρ h w) (ha : AL ρ xs.exp vals.toList) (hs : vals.size ≤ fn.ntmps) (hlv : ∀ t, lv t = false → xs.exp.length ≤ t) :
    Jc F 0 P c (fun e a w' => match e with
      | .normal => LvJ F P fn a.tmps (Ret T ρ h w K) a.defers w'
      | .ret => LvJ F P fn a.tmps (Ret T ρ h w K) a.defers w'
      | _ => False) { tmps := vals ++ Array.replicate (fn.ntmps - vals.size) undef, defers := [] } w := by
  have hfin : KOk T lv fn.ntmps (DOf true) ρ h w (fin cl pl K) (fun a w' => LvJ F P fn a.tmps (Ret T ρ h w K) a.defers w') := by
    intro σ e' d' h' w' a' h1 h2 h3 h4
    refine lv_ok hF hdep hcl d' a'.defers σ h' w' h1 h4 h2.good (fun τ h'' w'' p1 p2 => ?_)
    obtain ⟨v, q1, u, q2, q3⟩ := res_run hres p2.good (h3.mono p2.le) p1
    exact ⟨v, q1, u, τ, h'', v, rfl, q2, h2.trans p2, q3⟩
  refine hc (bodyX cl pl K) (fin cl pl K) (args0 xs .h .e) [] h w ρ _ _ hy (LR.enter (np := 0) ha hs hlv) .nil g hfin hfin (fun i => ?_)
  intro σ e' d' h' w' a' h1
  exact no_yes h1
end
end
end Ev
namespace Ev
noncomputable section
open Go
section
variable {T : Tb} {ρ σ : Rho} {h : HP} {w : World} {P : Program} {e : Tr AV} {lv : Nat → Bool} {n m N : Nat} {F : Fence} {cl : Cl} {D : Rho → Df → List Deferred → Prop}

/-! ### a code as the evaluator's code -/
def sqE (a b : EC) : EC := match a with
  | .skip => b
  | a => match b with
    | .skip => a
    | b => .seq a b
theorem c_sqE {a b : Code} {ea eb : EC} (ha : COk T P F m lv n N cl D a ea) (hb : COk T P F m lv n N cl D b eb) : COk T P F m lv n N cl D (.seq a b) (sqE ea eb) := by
  have h0 := c_seq ha hb
  unfold sqE
  split
  · intro X K e d h w ρ ac Q hy
    exact h0 X K e d h w ρ ac Q hy
  · split
    · intro X K e d h w ρ ac Q hy
      exact h0 X K e d h w ρ ac Q hy
    · exact h0
theorem c_bad (c : Code) : COk T P F m lv n N cl D c .bad := fun X K e d h w ρ a Q hy => no_yes hy
def ecOf (reg : Array Oper → EL) (dreg : Nat → Array Oper → EL) (rf : Operand → Array Tmp → Code → Code → EC) : Code → EC
  | .skip => .skip
  | .region id ops d => bif d then .dreg (dreg id ops) else .reg (reg ops)
  | .seq a b => sqE (ecOf reg dreg rf a) (ecOf reg dreg rf b)
  | .cond x a b => .cond (ooOf [] x) (ecOf reg dreg rf a) (ecOf reg dreg rf b)
  | .block id a => .block id (ecOf reg dreg rf a)
  | .loop a => .loop (ecOf reg dreg rf a)
  | .rangeFunc f ps a b => rf f ps a b
  | .exit i => .exit i
  | .scope a => .scope (ecOf reg dreg rf a)
  | .label _ => .skip
  | .goto _ => .bad
  | .ret => .ret
  | .refuse _ => .bad
def rfsOf : Code → List (Operand × Array Tmp × Code × Code)
  | .rangeFunc f ps a b => [(f, ps, a, b)]
  | .seq a b => rfsOf a ++ rfsOf b
  | .cond _ a b => rfsOf a ++ rfsOf b
  | .block _ a => rfsOf a
  | .loop a => rfsOf a
  | .scope a => rfsOf a
  | _ => []
theorem ecOf_ok {reg : Array Oper → EL} {dreg : Nat → Array Oper → EL} {rf : Operand → Array Tmp → Code → Code → EC}
    (h1 : ∀ id ops, COk T P F m lv n N cl D (.region id ops false) (.reg (reg ops)))
    (h2 : ∀ id ops, COk T P F m lv n N cl D (.region id ops true) (.dreg (dreg id ops))) : ∀ c : Code,
    (∀ q ∈ rfsOf c, COk T P F m lv n N cl D (.rangeFunc q.1 q.2.1 q.2.2.1 q.2.2.2) (rf q.1 q.2.1 q.2.2.1 q.2.2.2)) → COk T P F m lv n N cl D c (ecOf reg dreg rf c)
  | .skip, _ => c_skip
  | .region id ops d, _ => by cases d; exact h1 id ops; exact h2 id ops
  | .seq a b, h3 => c_sqE (ecOf_ok h1 h2 a (fun q hq => h3 q (List.mem_append_left _ hq))) (ecOf_ok h1 h2 b (fun q hq => h3 q (List.mem_append_right _ hq)))
  | .cond x a b, h3 => c_cond (ecOf_ok h1 h2 a (fun q hq => h3 q (List.mem_append_left _ hq))) (ecOf_ok h1 h2 b (fun q hq => h3 q (List.mem_append_right _ hq)))
  | .block id a, h3 => c_block (ecOf_ok h1 h2 a h3)
  | .loop a, h3 => c_loop (ecOf_ok h1 h2 a h3)
  | .rangeFunc f ps a b, h3 => h3 (f, ps, a, b) (List.mem_cons_self ..)
  | .exit i, _ => c_exit i
  | .scope a, h3 => c_scope (ecOf_ok h1 h2 a h3)
  | .label l, _ => c_label l
  | .goto _, _ => c_bad _
  | .ret, _ => c_ret
  | .refuse _, _ => c_bad _
end
end
end Ev
namespace Ev
noncomputable section
open Go

/-! ### the same: one and the same -/
theorem bft {a b : Bool} (h : bf a b false = true) : a = true ∧ b = true := by cases a <;> simp_all [bf]
theorem boS_eq {a b : Bool} (h : boS a b = true) : a = b := by cases a <;> cases b <;> first | rfl | cases h
theorem eqN_eq : ∀ {p q : Ps}, Ps.eqN p q = true → p = q
  | .h, .h, _ => rfl
  | .o p, .o q, h => by rw [eqN_eq (p := p) (q := q) h]
  | .i p, .i q, h => by rw [eqN_eq (p := p) (q := q) h]
theorem bfbb {a b : Bool} (h : bf a b (bf b false true) = true) : a = b := boS_eq h
mutual
theorem AV.same_eq : ∀ (v u : AV), AV.same v u = true → v = u
  | .un, u, h => by cases u <;> first | rfl | (simp [AV.same] at h)
  | .ud, u, h => by cases u <;> first | rfl | (simp [AV.same] at h)
  | .pn, u, h => by cases u <;> first | rfl | (simp [AV.same] at h)
  | .sn, u, h => by cases u <;> first | rfl | (simp [AV.same] at h)
  | .se, u, h => by cases u <;> first | rfl | (simp [AV.same] at h)
  | .mn, u, h => by cases u <;> first | rfl | (simp [AV.same] at h)
  | .cn, u, h => by cases u <;> first | rfl | (simp [AV.same] at h)
  | .fz, u, h => by cases u <;> first | rfl | (simp [AV.same] at h)
  | .iz, u, h => by cases u <;> first | rfl | (simp [AV.same] at h)
  | .bo a, u, h => by
    cases u <;> simp only [AV.same, reduceCtorEq, Bool.false_eq_true] at h
    rw [bfbb h]
  | .nt k a, u, h => by
    cases u <;> simp only [AV.same, reduceCtorEq, Bool.false_eq_true] at h
    obtain ⟨h1, h2⟩ := bft h
    rw [iEq_eq, beq_iff_eq] at h2
    rw [kkE_iff.1 h1, h2]
  | .st n a, u, h => by
    cases u <;> simp only [AV.same, reduceCtorEq, Bool.false_eq_true] at h
    obtain ⟨h1, h2⟩ := bft h
    rw [Nat.eq_of_beq_eq_true h1, Nat.eq_of_beq_eq_true h2]
  | .pt a i, u, h => by
    cases u <;> simp only [AV.same, reduceCtorEq, Bool.false_eq_true] at h
    obtain ⟨h1, h2⟩ := bft h
    rw [eqN_eq h1, Nat.eq_of_beq_eq_true h2]
  | .sl a o n c x e, u, h => by
    cases u <;> simp only [AV.same, reduceCtorEq, Bool.false_eq_true] at h
    obtain ⟨h1, h⟩ := bft h
    obtain ⟨h2, h⟩ := bft h
    obtain ⟨h3, h⟩ := bft h
    obtain ⟨h4, h⟩ := bft h
    obtain ⟨h5, h⟩ := bft h
    rw [eqN_eq h1, Nat.eq_of_beq_eq_true h2, Nat.eq_of_beq_eq_true h3, Nat.eq_of_beq_eq_true h4, bfbb h5, Nat.eq_of_beq_eq_true h]
  | .mp a, u, h => by cases u <;> simp only [AV.same, reduceCtorEq, Bool.false_eq_true] at h; rw [eqN_eq h]
  | .ch a, u, h => by cases u <;> simp only [AV.same, reduceCtorEq, Bool.false_eq_true] at h; rw [eqN_eq h]
  | .yl a, u, h => by cases u <;> simp only [AV.same, reduceCtorEq, Bool.false_eq_true] at h; rw [eqN_eq h]
  | .fn f a b, u, h => by
    cases u <;> simp only [AV.same, reduceCtorEq, Bool.false_eq_true] at h
    obtain ⟨h1, h⟩ := bft h
    obtain ⟨h2, h⟩ := bft h
    rw [eqN_eq h1, CL.same_eq a _ h2, CL.same_eq b _ h]
  | .it t v, u, h => by
    cases u <;> simp only [AV.same, reduceCtorEq, Bool.false_eq_true] at h
    obtain ⟨h1, h⟩ := bft h
    rw [Nat.eq_of_beq_eq_true h1, AV.same_eq v _ h]
  | .ag a, u, h => by cases u <;> simp only [AV.same, reduceCtorEq, Bool.false_eq_true] at h; rw [CL.same_eq a _ h]
  | .tu a, u, h => by cases u <;> simp only [AV.same, reduceCtorEq, Bool.false_eq_true] at h; rw [CL.same_eq a _ h]
theorem CL.same_eq : ∀ (c d : CL AV), CL.same c d = true → c = d
  | .nil, d, h => by cases d <;> first | rfl | (simp [CL.same] at h)
  | .c v r, d, h => by
    cases d <;> simp only [CL.same, reduceCtorEq, Bool.false_eq_true] at h
    obtain ⟨h1, h⟩ := bft h
    rw [AV.same_eq v _ h1, CL.same_eq r _ h]
  | .b n x r, d, h => by
    cases d <;> simp only [CL.same, reduceCtorEq, Bool.false_eq_true] at h
    obtain ⟨h1, h⟩ := bft h
    obtain ⟨h2, h⟩ := bft h
    rw [Nat.eq_of_beq_eq_true h1, Nat.eq_of_beq_eq_true h2, CL.same_eq r _ h]
end
theorem enS_eq : ∀ {l k : List (AV × AV × Nat)}, enS l k = true → l = k
  | [], [], _ => rfl
  | (k, v, b) :: r, (j, u, c) :: s, h => by
    simp only [enS] at h
    obtain ⟨h1, h⟩ := bft h
    obtain ⟨h2, h⟩ := bft h
    obtain ⟨h3, h⟩ := bft h
    rw [AV.same_eq _ _ h1, AV.same_eq _ _ h2, Nat.eq_of_beq_eq_true h3, enS_eq h]
theorem ntS_eq : ∀ {l k : List Nat}, ntS l k = true → l = k
  | [], [], _ => rfl
  | a :: r, b :: s, h => by
    simp only [ntS] at h
    obtain ⟨h1, h⟩ := bft h
    rw [Nat.eq_of_beq_eq_true h1, ntS_eq h]
theorem opS_eq {a b : Option Ps} (h : opS a b = true) : a = b := by
  cases a <;> cases b <;> simp only [opS, Bool.false_eq_true] at h
  · rfl
  · rw [eqN_eq h]
theorem trV_eq : ∀ {s t : Tr AV}, trV s t = true → s = t
  | .e, .e, _ => rfl
  | .n v l r, .n u m s, h => by
    simp only [trV] at h
    obtain ⟨h1, h⟩ := bft h
    obtain ⟨h2, h⟩ := bft h
    rw [AV.same_eq _ _ h1, trV_eq h2, trV_eq h]
theorem psS_eq : ∀ {l k : List Ps}, psS l k = true → l = k
  | [], [], _ => rfl
  | a :: r, b :: s, h => by
    simp only [psS] at h
    obtain ⟨h1, h⟩ := bft h
    rw [eqN_eq h1, psS_eq h]
theorem jpS_eq {a b : Option Jp} (h : jpS a b = true) : a = b := by
  rcases a with _ | _ | _ <;> rcases b with _ | _ | _ <;> simp only [jpS, Bool.false_eq_true] at h
  · rfl
  · rfl
  · rw [Nat.eq_of_beq_eq_true h]
theorem AB.same_eq (a b : AB) (h : AB.same a b = true) : a = b := by
  cases a with
  | dead => cases b <;> first | rfl | (simp [AB.same] at h)
  | defs => cases b <;> first | rfl | (simp [AB.same] at h)
  | cells c t x l =>
    cases b <;> simp only [AB.same, reduceCtorEq, Bool.false_eq_true] at h
    obtain ⟨h1, h⟩ := bft h
    obtain ⟨h2, h⟩ := bft h
    obtain ⟨h3, h⟩ := bft h
    rw [CL.same_eq _ _ h1, Nat.eq_of_beq_eq_true h2, boS_eq h3, boS_eq h]
  | map l c =>
    cases b <;> simp only [AB.same, reduceCtorEq, Bool.false_eq_true] at h
    obtain ⟨h1, h⟩ := bft h
    rw [enS_eq h1, Nat.eq_of_beq_eq_true h]
  | chan c b' s r =>
    cases b <;> simp only [AB.same, reduceCtorEq, Bool.false_eq_true] at h
    obtain ⟨h1, h⟩ := bft h
    obtain ⟨h2, h⟩ := bft h
    obtain ⟨h3, h⟩ := bft h
    rw [Nat.eq_of_beq_eq_true h1, CL.same_eq _ _ h2, Nat.eq_of_beq_eq_true h3, Nat.eq_of_beq_eq_true h]
  | shut c b' s r =>
    cases b <;> simp only [AB.same, reduceCtorEq, Bool.false_eq_true] at h
    obtain ⟨h1, h⟩ := bft h
    obtain ⟨h2, h⟩ := bft h
    obtain ⟨h3, h⟩ := bft h
    rw [Nat.eq_of_beq_eq_true h1, CL.same_eq _ _ h2, Nat.eq_of_beq_eq_true h3, Nat.eq_of_beq_eq_true h]
  | loop a1 p d t s i j =>
    cases b <;> simp only [AB.same, reduceCtorEq, Bool.false_eq_true] at h
    obtain ⟨h1, h⟩ := bft h
    obtain ⟨h2, h⟩ := bft h
    obtain ⟨h3, h⟩ := bft h
    obtain ⟨h4, h⟩ := bft h
    obtain ⟨h5, h⟩ := bft h
    obtain ⟨h6, h⟩ := bft h
    rw [boS_eq h1, jpS_eq h2, boS_eq h3, trV_eq h4, psS_eq h5, Nat.eq_of_beq_eq_true h6, Nat.eq_of_beq_eq_true h]
  | miter m s l lb c =>
    cases lb with
    | some x => cases b <;> simp [AB.same] at h
    | none =>
      cases b with
      | miter n t k lb' d =>
        cases lb' with
        | some x => simp [AB.same] at h
        | none =>
          simp only [AB.same] at h
          obtain ⟨h1, h⟩ := bft h
          obtain ⟨h2, h⟩ := bft h
          obtain ⟨h3, h⟩ := bft h
          rw [opS_eq h1, Nat.eq_of_beq_eq_true h2, ntS_eq h3, Nat.eq_of_beq_eq_true h]
      | _ => simp [AB.same] at h
theorem trS_eq : ∀ {s t : Tr AB}, trS s t = true → s = t
  | .e, .e, _ => rfl
  | .n v l r, .n u m s, h => by
    simp only [trS] at h
    obtain ⟨h1, h⟩ := bft h
    obtain ⟨h2, h⟩ := bft h
    rw [AB.same_eq _ _ h1, trS_eq h2, trS_eq h]
theorem HP.same_eq {h k : HP} (e : HP.same h k = true) : h = k := by
  obtain ⟨t, n⟩ := h
  obtain ⟨s, m⟩ := k
  simp only [HP.same] at e
  obtain ⟨h1, h2⟩ := bft e
  rw [eqN_eq h1, trS_eq h2]
theorem sameR_eq {u v : AV} {j k : HP} (h : R.of (sameR u v j k) = .yes) : u = v ∧ j = k := by
  have : sameR u v j k = true := by
    cases hs : sameR u v j k with
    | true => rfl
    | false => rw [hs] at h; cases h
  obtain ⟨h1, h2⟩ := bft this
  exact ⟨AV.same_eq _ _ h1, HP.same_eq h2⟩
end
end Ev
namespace Ev
noncomputable section
open Go Go.Conc
section
variable {T : Tb} {ρ σ : Rho} {h : HP} {w : World} {P : Program} {e : Tr AV} {lv : Nat → Bool} {n m N : Nat} {F : Fence} {cl : Cl}

/-! ### ranges over functions -/
/-- a loop's rounds: their codes, which places live, how many there are -/
structure RE where
  assign : Code
  body : Code
  lv : Nat → Bool
  n : Nat
inductive PsOk (lv : Nat → Bool) (n : Nat) : List Tmp → List Ps → Prop
  | nil : PsOk lv n [] []
  | cons {p : Tmp} {ps : List Tmp} {qs : List Ps} (h1 : p ≤ 1000000) (h2 : p < n) (h3 : lv p = true) (t : PsOk lv n ps qs) : PsOk lv n (p :: ps) (Ps.of p :: qs)
def tbL (RT : Nat → Nat → Option RE) (i j : Nat) (ps : List Ps) (t : Tr AV) (tm : Array Value) (params : Array Tmp) (assign body : Code) : Prop :=
  ∃ r, RT i j = some r ∧ r.assign = assign ∧ r.body = body ∧ tm.size = r.n ∧ (∀ k, k ≤ 1000000 → r.lv k = false → Tr.get .un (Ps.of k) t = .un) ∧ PsOk r.lv r.n params.toList ps
theorem PsOk.length {ps : List Tmp} {qs : List Ps} (h : PsOk lv n ps qs) : ps.length = qs.length := by
  induction h with
  | nil => rfl
  | cons _ _ _ _ ih => simp [ih]
theorem loop_at (g : Good T ρ h w) {p : Ps} {bz dn : Bool} {pe : Option Jp} {t : Tr AV} {ps : List Ps} {i j : Nat} (he : h.get p = .loop bz pe dn t ps i j) :
    ∃ lc L, ρ p = some lc ∧ w.heap[lc.blk]? = some (.loop L) ∧ L.state = (if dn then .done else if bz then .busy else .ready) ∧ L.pending = pe.map jpC ∧ ER ρ t L.tmps ∧ T.ofL i j ps t L.tmps L.params L.assign L.body := by
  obtain ⟨lc, o, hl, ho, hb⟩ := g.blk p (by unfold HP.live; rw [he]; intro h; cases h)
  rw [he] at hb
  cases hb with
  | loop a b c d => exact ⟨lc, _, hl, ho, a, b, c, d⟩
theorem at_of {tm : Array Value} (r : LR lv n ρ [] .nil e tm) : ER ρ e tm := by
  intro p hp
  have := r.rel p.idx
  unfold toOf at this
  have h2 : rd LS.nil e (bif Nat.ble p.idx 1000000 then .t (Ps.of p.idx) else .k .un) = Tr.get .un (Ps.of p.idx) e := by rw [Nat.ble_eq_true_of_le hp]; rfl
  have h3 : Ps.of p.idx = p := Ps.num_inj (by rw [Ps.of_num (by omega)]; have := p.num_pos; unfold Ps.idx; omega)
  rw [← h3]
  rw [Ps.of_idx (by omega : p.idx + 1 < 2 ^ 40)]
  rw [← h2]; exact this
/-- the record is laid -/
theorem rf_laid {RT : Nat → Nat → Option RE} (hT : T.ofL = tbL RT) {a : Act} (lr : LR lv n ρ [] .nil e a.tmps) (g : Good T ρ h w) {ps : Array Tmp} {assign body : Code} {i j : Nat} {r : RE}
    (hr : RT i j = some r) (ha : r.assign = assign) (hb : r.body = body) (hlv : r.lv = lv) (hn : r.n = n) {pe : List Ps} (hps : PsOk lv n ps.toList pe) (fn : FuncId) :
    ∃ B1 B2 w2 ρ2, (Instr.enterLoop fn a.tmps ps assign body none).run P w = .ok (B2, [{ target := .collected B1, args := #[] }]) w2 ∧ Post T ρ h w ρ2 ((h.new .defs).new (.loop false none false e pe i j)) w2 ∧
      ρ2 h.nx = some ⟨B1, 0, 0⟩ ∧ ρ2 (h.new .defs).nx = some ⟨B2, 0, 0⟩ := by
  have p1 := Post.new g (sz := 0) (b := .defs) (o := .deferred (some [])) (n := w.drawn) .defs
  generalize hρ1 : (fun i => if i = h.nx then some (⟨w.heap.size, 0, 0⟩ : Loc) else ρ i) = ρ1 at p1
  have hnx : ∀ k l, ρ1 k = some l → k ≠ (h.new .defs).nx := fun k l e hk => by have := p1.good.dom k l e; rw [hk] at this; omega
  have hk1 : ρ1 h.nx = some ⟨w.heap.size, 0, 0⟩ := by rw [← hρ1]; exact if_pos rfl
  have hle : ∀ sz, Rho.le ρ1 (fun k => if k = (h.new .defs).nx then some ⟨sz, 0, 0⟩ else ρ1 k) := fun sz k l e => by simp [hnx k l e, e]
  have p2 := Post.new p1.good (sz := 0) (b := .loop false none false e pe i j) (o := .loop { state := .ready, pending := none, fn, tmps := a.tmps, params := ps, assign, body, defers := w.heap.size }) (n := w.drawn) (by
    refine .loop rfl rfl (((at_of lr).mono p1.le).mono (hle _)) ?_
    rw [hT]
    exact ⟨r, hr, ha, hb, by rw [hn]; exact lr.size, fun k hk hl => lr.dead k hk (by rw [← hlv]; exact hl), by rw [hlv, hn]; exact hps⟩)
  refine ⟨_, _, _, _, ?_, p1.trans p2, hle _ _ _ hk1, if_pos rfl⟩
  simp [Instr.enterLoop]
  rfl
/-- THE STATEMENT -/
theorem c_rf {RT : Nat → Nat → Option RE} (hT : T.ofL = tbL RT) (hF : ∀ f, F.fn f) (hdep : F.depth = none) (hro : F.round = none) (hcl : ClOk T P F cl) {f : Operand} {ps : Array Tmp} {assign body : Code} {i j : Nat} {r : RE}
    (hr : RT i j = some r) (ha : r.assign = assign) (hb : r.body = body) (hlv : r.lv = lv) (hn : r.n = n) {pe : List Ps} (hps : PsOk lv n ps.toList pe) :
    COk T P F 0 lv n N cl (DOf true) (.rangeFunc f ps assign body) (.rf (ooOf [] f) pe i j) := by
  intro X K e d h w ρ a Q hy lr hd g hK hR hX
  have hy : isFn (cl (.v (rd .nil e (ooOf [] f))) (.c (.yl (h.new .defs).nx) .nil) ((h.new .defs).new (.loop false none false e pe i j)) fun _ h' => rf1 X K e (.mk h.nx :: d) h' (h.new .defs).nx (h'.get (h.new .defs).nx)) (rd .nil e (ooOf [] f)) = .yes := hy
  refine j_of (wpIn_rangeFunc fun fn _ => ?_)
  obtain ⟨B1, B2, w2, ρ2, henter, p12, hm1, hly⟩ := rf_laid (P := P) hT lr g hr ha hb hlv hn hps fn
  generalize (h.new .defs).new (.loop false none false e pe i j) = hL at *
  generalize (h.new .defs).nx = yl at *
  have g2 := p12.good
  have hx := (lr.oo (a := a) rfl f).mono p12.le
  unfold isFn at hy
  split at hy
  · rename_i gg ca cb hg
    rw [hg] at hy hx
    generalize hxx : a.eval f = y at hx
    cases hx with
    | @fn _ _ _ xs ys h1 h2 w1' w2' =>
      rcases hcl.v ρ2 _ w2 _ _ _ hy g2 with ⟨g0, a0, b0, he, hy⟩ | ⟨_, _, he, _⟩
      · cases he
        have hyl : VR ρ2 (.yl yl) (.func (.yield B2) #[] #[]) := .yl hly
        have hal : AL ρ2 (CL.app (CL.app cb (.c (.yl yl) .nil)) ca).exp (xs ++ #[Value.func (.yield B2) #[] #[]] ++ ys).toList := by
          rw [exp_app w1', exp_app (c := .c (.yl yl) .nil) trivial]
          simp only [Array.toList_append, List.append_assoc]
          exact h1.append (AL.append (.cons hyl .nil) h2)
        obtain ⟨hf, hc⟩ := hcl.f ρ2 _ w2 gg _ _ _ hy g2 hal (wf_app (wf_app w2' (c := .c (.yl yl) .nil) trivial) w1')
        refine ⟨B2, [{ target := .collected B1, args := #[] }], w2, { target := .fn (.func gg.idx) ys, args := xs ++ #[.func (.yield B2) #[] #[]] }, w2, gg.idx, xs ++ #[.func (.yield B2) #[] #[]] ++ ys, w2, by rw [hro]; exact henter, ?_, fun f' _ => hF f', ?_, fun hs => (by rw [hdep] at hs; cases hs), ?_⟩
        · have hcst : a.eval (.const (.func (.yield B2) #[] #[])) = .func (.yield B2) #[] #[] := rfl
          simp [resolve, Deferred.ofValue, hxx, hcst]
        · exact hf.run _ w2
        · show CallsIn F 0 P gg.idx _ w2 _
          refine hc.mono fun en w3 hret => ?_
          obtain ⟨v, σ, h', x, rfl, q1, q2, q3⟩ := hret
          have q1 : rf1 X K e (.mk h.nx :: d) h' yl (h'.get yl) = .yes := q1
          unfold rf1 at q1
          split at q1
          · rename_i je dn t' ps' i' j' hlp
            obtain ⟨lc, L', hl, ho, hst, hpe, _, _⟩ := loop_at q2.good hlp
            have hl' := q2.le _ _ hly
            rw [hl'] at hl; cases hl
            have hk := Post.kill (o := .loop { L' with state := .exhausted }) q2.good (live_of hlp (by simp)) hl'
            have hall := (p12.trans q2).trans hk
            have hnb : ¬ L'.state = .busy := by rw [hst]; cases dn <;> simp
            have hend : (Instr.endLoop B2).run P w3 = .ok L'.pending { w3 with heap := w3.heap.setIfInBounds B2 (.loop { L' with state := .exhausted }) } := by
              simp [Instr.endLoop, Instr.getLoop, run_getObj ho (by simp), run_setObj ho (by simp), hnb]
            have hend : (Instr.endLoop B2).run P w3 = .ok (je.map jpC) { w3 with heap := w3.heap.setIfInBounds B2 (.loop { L' with state := .exhausted }) } := by rw [← hpe]; exact hend
            refine ⟨_, _, hend, ?_⟩
            have hlr := (lr.mono hall.le)
            have hdd : DOf true σ (.mk h.nx :: d) ([{ target := .collected B1, args := #[] }] ++ a.defers) :=
              .cons (.mk (l := ⟨B1, 0, 0⟩) (q2.le _ _ hm1)) (DRel.mono hall.le hd)
            unfold jump at q1
            split at q1
            · exact hK σ e _ _ _ { a with defers := [{ target := .collected B1, args := #[] }] ++ a.defers } q1 hall hlr hdd
            · exact wpIn_ret (hR σ e _ _ _ { a with defers := [{ target := .collected B1, args := #[] }] ++ a.defers } q1 hall hlr hdd)
            · rename_i id
              exact wpIn_exit (hX id σ e _ _ _ { a with defers := [{ target := .collected B1, args := #[] }] ++ a.defers } q1 hall hlr hdd)
          · exact no_yes q1
      · cases he
  · exact no_yes hy
end
end
end Ev
namespace Ev
noncomputable section
open Go Go.Conc
section
variable {T : Tb} {ρ σ : Rho} {h : HP} {w : World} {P : Program} {e : Tr AV} {lv : Nat → Bool} {n m N : Nat} {F : Fence} {cl : Cl} {tm : Array Value}

/-! ### yields -/
theorem LR.setp (r : LR lv n ρ [] .nil e tm) {p : Nat} (h1 : p ≤ 1000000) (h2 : p < n) (h3 : lv p = true) {v : AV} {x : Value} (hv : VR ρ v x) : LR lv n ρ [] .nil (Tr.set .un v (Ps.of p) e) (tm.setIfInBounds p x) := by
  have := (r.push h2 h1 hv).over
  rwa [if_pos h3] at this
theorem setps_ok : ∀ (params : List Tmp) (ps : List Ps) (xs : CV) (vals : List Value) (e : Tr AV) (tm : Array Value), PsOk lv n params ps → LR lv n ρ [] .nil e tm → AL ρ xs.exp vals → flB ps xs = true →
    vals.length = params.length ∧ LR lv n ρ [] .nil (setps ps xs e) ((params.zip vals).foldl (fun tmps (q : Tmp × Value) => tmps.setIfInBounds q.1 q.2) tm)
  | [], ps, xs, vals, e, tm, hp, r, ha, hfl => by
    cases hp
    cases xs with
    | nil => cases ha; exact ⟨rfl, r⟩
    | b n d r => cases hfl
    | c v r => cases hfl
  | p :: params, ps, xs, vals, e, tm, hp, r, ha, hfl => by
    cases hp with
    | @cons _ _ qs h1 h2 h3 t =>
      cases xs with
      | nil => cases hfl
      | b n d r => cases hfl
      | c v xr =>
        have ha : AL ρ (v :: xr.exp) vals := ha
        cases ha with
        | @cons _ x _ vs hv ht =>
          obtain ⟨i1, i2⟩ := setps_ok params qs xr vs _ _ t (r.setp h1 h2 h3 hv) ht hfl
          exact ⟨by simp [i1], i2⟩
/-- a loop's record: what the table says of it -/
def RndOk (T : Tb) (P : Program) (F : Fence) (Pr : Pr) (RT : Nat → Nat → Option RE) : Prop :=
  ∀ i j r, RT i j = some r → ∀ (N : Nat) (cl : Cl) (l : Nat), ClOk T P F cl → COk T P (F.inRound l) 0 r.lv r.n N cl (DOf false) r.assign (Pr.cs i) ∧ COk T P (F.inRound l) 0 r.lv r.n N cl (DOf false) r.body (Pr.cs j)
/-- A YIELD -/
theorem yl_ok {Pr : Pr} {RT : Nat → Nat → Option RE} (hT : T.ofL = tbL RT) (hF : ∀ f, F.fn f) (hR : RndOk T P F Pr RT) (hcl : ClOk T P F cl) {p : Ps} {xs : CV} {K : Kv} (hy : ylB Pr cl N p xs h K (h.get p) = .yes) (g : Good T ρ h w) :
    ∃ lc, ρ p = some lc ∧ ∀ vals : Array Value, AL ρ xs.exp vals.toList → xs.wf → ∃ f tmps assign body, (Instr.yield lc.blk vals).run P w = .ok (.round lc.blk f tmps assign body) w ∧ RoundIn F 0 P lc.blk f tmps assign body w (Ret T ρ h w K) := by
  unfold ylB at hy
  split at hy
  · rename_i t ps i j he
    obtain ⟨hfl, hy⟩ := bf_yes' hy
    obtain ⟨lc, L, hl, ho, hst, hpe, hER, hof⟩ := loop_at g he
    rw [hT] at hof
    obtain ⟨r, hr, hra, hrb, hsz, hdead, hps⟩ := hof
    refine ⟨lc, hl, fun vals hal hw => ?_⟩
    have lr0 : LR r.lv r.n ρ [] .nil t L.tmps := by
      have h0 : ∀ k, rd LS.nil t (toOf [] k) = (if k ≤ 1000000 then Tr.get .un (Ps.of k) t else .un) := fun k => by
        unfold toOf
        show rd LS.nil t (bif Nat.ble k 1000000 then .t (Ps.of k) else .k .un) = _
        cases hb : Nat.ble k 1000000 with
        | true => rw [if_pos (Nat.le_of_ble_eq_true hb)]; rfl
        | false => rw [if_neg (fun h => by rw [Nat.ble_eq_true_of_le h] at hb; cases hb)]; rfl
      refine ⟨fun k => ?_, fun k h1 h2 => by rw [h0, if_pos h1], hdead, hsz⟩
      rw [h0]
      split
      · rename_i hk
        have hi : (Ps.of k).idx = k := Ps.of_idx (by omega)
        have := hER (Ps.of k) (by rw [hi]; exact hk)
        rwa [hi] at this
      · exact .un _
    obtain ⟨hlen, lr1⟩ := setps_ok L.params.toList ps xs vals.toList t L.tmps hps lr0 hal hfl
    have hfold : (L.params.zip vals).foldl (fun tmps (x : Tmp × Value) => tmps.setIfInBounds x.1 x.2) L.tmps = (L.params.toList.zip vals.toList).foldl (fun tmps (q : Tmp × Value) => tmps.setIfInBounds q.1 q.2) L.tmps := by
      rw [← Array.foldl_toList, Array.toList_zip]
    refine ⟨L.fn, (L.params.zip vals).foldl (fun tmps (x : Tmp × Value) => tmps.setIfInBounds x.1 x.2) L.tmps, L.assign, L.body, ?_, ?_⟩
    · have hsize : vals.size = L.params.size := by simpa using hlen
      simp [Instr.yield, Instr.getLoop, run_getObj ho (by simp), hsize]
    · rw [hfold]
      refine roundIn_of_j (hF _) ?_
      obtain ⟨ca, cb⟩ := hR i j r hr N cl lc.blk hcl
      rw [← hra, ← hrb]
      refine ca ⟨fun _ _ _ => false, fun _ _ _ _ => false⟩ _ _ [] h w ρ _ _ hy lr1 ⟨rfl, rfl⟩ g ?_ (fun σ e' d' h' w' a' h1 => no_yes h1) (fun i σ e' d' h' w' a' h1 => no_yes h1)
      intro σ e1 d1 h1 w1 a1 k1 p1 lr2 hd1
      obtain ⟨rfl, hd1⟩ := hd1
      have k1 : begL h1 p (fun h2 => runC cl N (Pr.cs j) (ylX p K) (fun _ _ h3 => endL h3 p none false (K (.bo true)) (h3.get p)) e1 [] h2) (h1.get p) = .yes := k1
      unfold begL at k1
      split at k1
      · rename_i t2 ps2 i2 j2 he2
        obtain ⟨lc2, L2, hl2, ho2, hst2, hpe2, hER2, hof2⟩ := loop_at p1.good he2
        rw [p1.le _ _ hl] at hl2; cases hl2
        have q1 := Post.put (n := w1.drawn) (o := .loop { L2 with state := .busy }) p1.good (live_of he2 (by simp)) (p1.le _ _ hl) (BR.loop (busy := true) (done := false) (pend := none) (t := t2) (ps := ps2) (i := i2) (j := j2) (L := { L2 with state := .busy }) rfl hpe2 hER2 hof2)
        refine ⟨{ w1 with heap := w1.heap.setIfInBounds lc.blk (.loop { L2 with state := .busy }) }, ?_, ?_⟩
        · have hready : L2.state = .ready := hst2
          simp [Instr.beginRound, Instr.getLoop, run_getObj ho2 (by simp), run_setObj ho2 (by simp), hready]
        · have q1 : Post T σ h1 w1 σ (h1.put p (.loop true none false t2 ps2 i2 j2)) { w1 with heap := w1.heap.setIfInBounds lc.blk (.loop { L2 with state := .busy }) } := q1
          have p2 := p1.trans q1
          have fin : ∀ (jmp : Option Jp) (v : Bool) (τ : Rho) (h3 : HP) (w3 : World), endL h3 p jmp (jmp.isSome) (K (.bo v)) (h3.get p) = .yes → v = !(jmp.isSome) → Post T ρ h w τ h3 w3 →
              ∃ v' w4, (Instr.endRound lc.blk (jmp.map jpC)).run P w3 = .ok v' w4 ∧ Ret T ρ h w K (.returned v') w4 := by
            intro jmp v τ h3 w3 k3 hv p3
            unfold endL at k3
            split at k3
            · rename_i bz3 pe3 dn3 t3 ps3 i3 j3 he3
              obtain ⟨lc3, L3, hl3, ho3, hst3, hpe3, hER3, hof3⟩ := loop_at p3.good he3
              rw [p3.le _ _ hl] at hl3; cases hl3
              have q3 := Post.put (n := w3.drawn) (o := .loop { L3 with state := if jmp.isSome then .done else .ready, pending := jmp.map jpC }) p3.good (live_of he3 (by simp)) (p3.le _ _ hl)
                (BR.loop (busy := false) (done := jmp.isSome) (pend := jmp) (t := t3) (ps := ps3) (i := i3) (j := j3) (L := { L3 with state := if jmp.isSome then .done else .ready, pending := jmp.map jpC }) rfl rfl hER3 hof3)
              refine ⟨.bool v, { w3 with heap := w3.heap.setIfInBounds lc.blk (.loop { L3 with state := if jmp.isSome then .done else .ready, pending := jmp.map jpC }) }, ?_, .bo v, τ, _, _, rfl, k3, p3.trans q3, .bo v⟩
              cases jmp <;> simp [Instr.endRound, Instr.getLoop, run_getObj ho3 (by simp), run_setObj ho3 (by simp), hv]
            · exact no_yes k3
          refine cb (ylX p K) (fun _ _ h3 => endL h3 p none false (K (.bo true)) (h3.get p)) e1 [] _ _ σ a1 (roundPost P lc.blk (Ret T ρ h w K)) k1 lr2 ⟨rfl, hd1⟩ q1.good ?_ ?_ ?_
          · intro τ e3 d3 h3 w3 a3 k3 p3 _ _
            exact fin none true τ h3 w3 k3 rfl (p2.trans p3)
          · intro τ e3 d3 h3 w3 a3 k3 p3 _ _
            exact fin (some .rt) false τ h3 w3 k3 rfl (p2.trans p3)
          · intro id τ e3 d3 h3 w3 a3 k3 p3 _ _
            exact fin (some (.ex id)) false τ h3 w3 k3 rfl (p2.trans p3)
      · exact no_yes k1
  · exact no_yes hy
end
end
end Ev
namespace Ev
noncomputable section
open Go

/-! ### regions that draw their order: sets, who writes what -/
section
variable {ops : Array Oper}
def bef (b : Array Nat) (j i : Nat) : Bool := (b.getD i 0).testBit j
/-- closed: with each one all that it waits for -/
def Dn (ops : Array Oper) (L : Nat → Prop) : Prop := ∀ (i : Nat) (o : Oper), ops[i]? = some o → L i → ∀ e ∈ o.after, Region.binds .any e = true → L e.on
def Rdy (ops : Array Oper) (L : Nat → Prop) (i : Nat) : Prop := ∀ (o : Oper), ops[i]? = some o → ∀ e ∈ o.after, Region.binds .any e = true → L e.on
theorem mask_or {s m : Nat} {j k : Nat} (h : (s ||| 2 ^ j ||| m).testBit k = true) : s.testBit k = true ∨ k = j ∨ m.testBit k = true := by
  rw [Nat.testBit_or, Nat.testBit_or, Nat.testBit_two_pow] at h
  simp only [Bool.or_eq_true, decide_eq_true_eq] at h
  rcases h with (h | h) | h
  · exact .inl h
  · exact .inr (.inl h.symm)
  · exact .inr (.inr h)
theorem before_step (L : Nat → Prop) (acc : Array Nat) (hacc : ∀ i j, (acc.getD i 0).testBit j = true → Dn ops L → Rdy ops L i → L j) (hdn : Dn ops L) : ∀ (es : List Edge) (s : Nat) (o : Oper),
    (∀ e ∈ es, e ∈ o.after) → (∀ j, s.testBit j = true → (∀ e ∈ o.after, Region.binds .any e = true → L e.on) → L j) →
    ∀ j, (es.foldl (fun s e => if Region.binds .any e then s ||| 2 ^ e.on ||| acc.getD e.on 0 else s) s).testBit j = true → (∀ e ∈ o.after, Region.binds .any e = true → L e.on) → L j
  | [], s, o, he, hs, j, hj, hr => hs j hj hr
  | e :: es, s, o, he, hs, j, hj, hr => by
    rw [List.foldl_cons] at hj
    refine before_step L acc hacc hdn es _ o (fun e' h' => he e' (List.mem_cons_of_mem _ h')) (fun k hk hr' => ?_) j hj hr
    split at hk
    · rename_i hb
      rcases mask_or hk with h | h | h
      · exact hs k h hr'
      · rw [h]; exact hr' e (he e (List.mem_cons_self ..)) hb
      · have hL : L e.on := hr' e (he e (List.mem_cons_self ..)) hb
        exact hacc e.on k h hdn (fun o' ho' e' he' hb' => hdn e.on o' ho' hL e' he' hb')
    · exact hs k hk hr'
theorem before_fold (L : Nat → Prop) (hdn : Dn ops L) : ∀ (os : List Oper) (acc : Array Nat), (∀ i, ops[acc.size + i]? = os[i]?) → (∀ i j, (acc.getD i 0).testBit j = true → Dn ops L → Rdy ops L i → L j) →
    ∀ i j, ((os.foldl (fun acc o => acc.push (o.after.foldl (fun s e => if Region.binds .any e then s ||| 2 ^ e.on ||| acc.getD e.on 0 else s) 0)) acc).getD i 0).testBit j = true → Rdy ops L i → L j
  | [], acc, hos, hacc, i, j, hj, hr => hacc i j hj hdn hr
  | o :: os, acc, hos, hacc, i, j, hj, hr => by
    rw [List.foldl_cons] at hj
    refine before_fold L hdn os _ (fun k => ?_) (fun i' j' hj' _ hr' => ?_) i j hj hr
    · have := hos (k + 1)
      rw [Array.size_push, show acc.size + 1 + k = acc.size + (k + 1) from by omega, this]; simp
    · rw [Array.getD_eq_getD_getElem?, Array.getElem?_push] at hj'
      split at hj'
      · rename_i hi
        rw [hi] at hr'
        have ho : ops[acc.size]? = some o := by simpa using hos 0
        rw [Option.getD_some, ← Array.foldl_toList] at hj'
        exact before_step L acc hacc hdn o.after.toList 0 o (fun e he => by simpa using he) (fun j h _ => by simp at h) j' hj' (hr' o ho)
      · rw [← Array.getD_eq_getD_getElem?] at hj'
        exact hacc i' j' hj' hdn hr'
theorem bef_ok {L : Nat → Prop} (hdn : Dn ops L) {i j : Nat} (h : bef (Region.before ops) j i = true) (hr : Rdy ops L i) : L j := by
  unfold bef Region.before at h
  rw [← Array.foldl_toList] at h
  exact before_fold L hdn ops.toList #[] (fun i => by simp) (fun i j h => by simp at h) i j h hr
theorem bef_ok' {L : Nat → Prop} (hdn : Dn ops L) {i j : Nat} (h : bef (Region.before ops) j i = true) (hi : L i) : L j := bef_ok hdn h (fun o ho e he hb => hdn i o ho hi e he hb)

/-! ### what the places hold, by who is done -/
/-- who writes a place: one alone -/
def wrtL (t : Nat) : List Oper → Nat → Option Nat
  | [], _ => none
  | o :: r, i => match o.dst with
    | some d => bif Nat.beq d t then some i else wrtL t r (Nat.add i 1)
    | none => wrtL t r (Nat.add i 1)
def wrt (ops : Array Oper) (t : Nat) : Option Nat := wrtL t ops.toList 0
theorem wrtL_some {t j : Nat} : ∀ {l : List Oper} {i : Nat}, wrtL t l i = some j → ∃ o k, j = i + k ∧ l[k]? = some o ∧ o.dst = some t
  | [], i, h => by cases h
  | o :: r, i, h => by
    unfold wrtL at h
    cases hd : o.dst with
    | none =>
      rw [hd] at h
      obtain ⟨o', k, h1, h2, h3⟩ := wrtL_some (l := r) h
      have h1 : j = (i + 1) + k := h1
      exact ⟨o', k + 1, by omega, by simpa using h2, h3⟩
    | some d =>
      rw [hd] at h
      dsimp only at h
      cases hb : Nat.beq d t with
      | true =>
        rw [hb] at h
        cases h
        exact ⟨o, 0, rfl, rfl, by rw [hd, Nat.eq_of_beq_eq_true hb]⟩
      | false =>
        rw [hb] at h
        obtain ⟨o', k, h1, h2, h3⟩ := wrtL_some (l := r) h
        have h1 : j = (i + 1) + k := h1
        exact ⟨o', k + 1, by omega, by simpa using h2, h3⟩
theorem wrtL_none {t : Nat} : ∀ {l : List Oper} {i : Nat}, wrtL t l i = none → ∀ (k : Nat) (o : Oper), l[k]? = some o → o.dst ≠ some t
  | [], i, h, k, o, hk => by simp at hk
  | o' :: r, i, h, k, o, hk => by
    unfold wrtL at h
    have hrest : o'.dst ≠ some t ∧ wrtL t r (Nat.add i 1) = none := by
      cases hd : o'.dst with
      | none => rw [hd] at h; exact ⟨by simp, h⟩
      | some d =>
        rw [hd] at h
        dsimp only at h
        cases hb : Nat.beq d t with
        | true => rw [hb] at h; cases h
        | false =>
          rw [hb] at h
          refine ⟨fun he => ?_, h⟩
          cases he
          rw [show Nat.beq t t = true from by simp] at hb; cases hb
    cases k with
    | zero => simp only [List.getElem?_cons_zero, Option.some.injEq] at hk; subst hk; exact hrest.1
    | succ k => exact wrtL_none hrest.2 k o (by simpa using hk)
theorem wrt_some {t j : Nat} (h : wrt ops t = some j) : ∃ o, ops[j]? = some o ∧ o.dst = some t := by
  obtain ⟨o, k, h1, h2, h3⟩ := wrtL_some h
  rw [Nat.zero_add] at h1
  subst h1
  exact ⟨o, by simpa using h2, h3⟩
def Uniq (ops : Array Oper) : Prop := ∀ (i j : Nat) (o o' : Oper) (t : Nat), ops[i]? = some o → ops[j]? = some o' → o.dst = some t → o'.dst = some t → i = j
theorem wrt_of (hu : Uniq ops) {t j : Nat} {o : Oper} (ho : ops[j]? = some o) (hd : o.dst = some t) : wrt ops t = some j := by
  cases hw : wrt ops t with
  | none => exact absurd hd (wrtL_none hw j o (by simpa using ho))
  | some i =>
    obtain ⟨o', ho', hd'⟩ := wrt_some hw
    rw [hu i j o' o t ho' ho hd' hd]
open Classical in
noncomputable def aval (ops : Array Oper) (a0 : Nat → AV) (vs : Nat → AV) (S : Nat → Prop) (t : Nat) : AV :=
  match wrt ops t with
  | some j => if S j then vs j else a0 t
  | none => a0 t
variable {n : Nat} {a0 : Nat → AV} {vs : Nat → AV} {S : Nat → Prop} {tm : Array Value} {ρ σ : Rho}
theorem aval_none (t : Nat) (h : ∀ j, ¬ S j) : aval ops a0 vs S t = a0 t := by
  unfold aval
  cases wrt ops t with
  | none => rfl
  | some j => exact if_neg (h j)
theorem aval_same {S' : Nat → Prop} (h : ∀ j, S j ↔ S' j) (t : Nat) : aval ops a0 vs S t = aval ops a0 vs S' t := by
  rw [show S = S' from funext fun j => propext (h j)]
theorem aval_chg {vs' : Nat → AV} (h : ∀ j, S j → vs' j = vs j) (t : Nat) : aval ops a0 vs' S t = aval ops a0 vs S t := by
  unfold aval
  cases wrt ops t with
  | none => rfl
  | some j =>
    dsimp only
    by_cases hS : S j
    · rw [if_pos hS, if_pos hS, h j hS]
    · rw [if_neg hS, if_neg hS]
/-- one more is done -/
theorem aval_put (hu : Uniq ops) {i : Nat} {o : Oper} (ho : ops[i]? = some o) {vs' : Nat → AV} (hx : ∀ j, j ≠ i → vs' j = vs j) {S' : Nat → Prop} (hS' : ∀ j, S' j ↔ S j ∨ j = i) (t : Nat) :
    (o.dst = some t → aval ops a0 vs' S' t = vs' i) ∧ (o.dst ≠ some t → aval ops a0 vs' S' t = aval ops a0 vs S t) := by
  refine ⟨fun hd => ?_, fun hd => ?_⟩
  · unfold aval
    rw [wrt_of hu ho hd]
    exact if_pos ((hS' i).2 (.inr rfl))
  · unfold aval
    cases hw : wrt ops t with
    | none => rfl
    | some j =>
      have hj : j ≠ i := fun e => by
        obtain ⟨o', ho', hd'⟩ := wrt_some hw
        rw [e, ho] at ho'; cases ho'; exact hd hd'
      dsimp only
      by_cases hSj : S j
      · rw [if_pos hSj, if_pos ((hS' j).2 (.inl hSj)), hx j hj]
      · rw [if_neg hSj, if_neg (fun h' => ((hS' j).1 h').elim hSj hj)]
/-- the frame, as those have left it who are done -/
structure AR (ops : Array Oper) (n : Nat) (a0 : Nat → AV) (vs : Nat → AV) (ρ : Rho) (S : Nat → Prop) (tm : Array Value) : Prop where
  size : tm.size = n
  rel : ∀ t, VR ρ (aval ops a0 vs S t) (tm.getD t undef)
theorem AR.mono (hle : ρ.le σ) (h : AR ops n a0 vs ρ S tm) : AR ops n a0 vs σ S tm := ⟨h.size, fun t => (h.rel t).mono hle⟩
theorem AR.chg {vs' : Nat → AV} (h : AR ops n a0 vs ρ S tm) (hx : ∀ j, S j → vs' j = vs j) : AR ops n a0 vs' ρ S tm := ⟨h.size, fun t => by rw [aval_chg hx]; exact h.rel t⟩
theorem AR.put (hu : Uniq ops) {a : Act} (h : AR ops n a0 vs ρ S a.tmps) {i : Nat} {o : Oper} (ho : ops[i]? = some o) (hd : dOk n o.dst = true) {vs' : Nat → AV} (hx : ∀ j, j ≠ i → vs' j = vs j) {S' : Nat → Prop} (hS' : ∀ j, S' j ↔ S j ∨ j = i) {x : Value} (hv : VR ρ (vs' i) x) :
    AR ops n a0 vs' ρ S' (a.put o.dst x).tmps := by
  cases hdst : o.dst with
  | none =>
    refine ⟨h.size, fun t => ?_⟩
    rw [(aval_put hu ho hx hS' t).2 (by rw [hdst]; simp)]
    exact h.rel t
  | some d =>
    rw [hdst] at hd
    simp only [dOk, Bool.and_eq_true, Nat.blt_eq] at hd
    refine ⟨by simp [Act.put, h.size], fun t => ?_⟩
    show VR ρ _ ((a.tmps.setIfInBounds d x).getD t undef)
    rw [getD_set _ _ _ _ (by rw [h.size]; exact hd.1)]
    by_cases ht : t = d
    · subst ht
      rw [if_pos rfl, (aval_put hu ho hx hS' t).1 hdst]; exact hv
    · rw [if_neg ht, (aval_put hu ho hx hS' t).2 (by rw [hdst]; intro e; exact ht (Option.some.inj e).symm)]; exact h.rel t

/-! ### who reads what -/
/-- whatever it reads was written by one ahead of it, or is written by one behind it -/
def RdOk (ops : Array Oper) (b : Array Nat) : Prop := ∀ (i : Nat) (o : Oper) (t j : Nat), ops[i]? = some o → t ∈ o.looksAt ops → wrt ops t = some j → bef b j i = true ∨ bef b i j = true
/-- at its turn: all of them ahead are done, none behind it -/
def Cons (ops : Array Oper) (b : Array Nat) (i : Nat) (S : Nat → Prop) : Prop := ∀ (o : Oper) (t j : Nat), ops[i]? = some o → t ∈ o.looksAt ops → wrt ops t = some j → (bef b j i = true → S j) ∧ (bef b i j = true → ¬ S j)
theorem reads_eq {b : Array Nat} (hrd : RdOk ops b) {i : Nat} {o : Oper} (ho : ops[i]? = some o) {S' : Nat → Prop} (c : Cons ops b i S) (c' : Cons ops b i S') :
    ∀ t ∈ o.looksAt ops, aval ops a0 vs S t = aval ops a0 vs S' t := by
  intro t ht
  unfold aval
  cases hw : wrt ops t with
  | none => rfl
  | some j =>
    dsimp only
    obtain ⟨c1, c2⟩ := c o t j ho ht hw
    obtain ⟨d1, d2⟩ := c' o t j ho ht hw
    rcases hrd i o t j ho ht hw with hb | hb
    · rw [if_pos (c1 hb), if_pos (d1 hb)]
    · rw [if_neg (c2 hb), if_neg (d2 hb)]
/-- the region's places behind an operation -/
theorem push_rd {lv : Nat → Bool} {ds : List (Option Nat)} {l : LS} {e : Tr AV} {dst : Option Nat} (hd : dOk n dst = true) (v : AV) (t : Nat) :
    rd (.c v l) (upE (lvD lv dst) v e) (toOf (dst :: ds) t) = if dst = some t then v else rd l e (toOf ds t) := by
  cases dst with
  | none => rw [to_none, if_neg (by simp)]; rfl
  | some d =>
    simp only [dOk, Bool.and_eq_true, Nat.blt_eq] at hd
    by_cases ht : d = t
    · subst ht; rw [to_same, if_pos rfl]
    · rw [to_other ht, if_neg (fun e => ht (Option.some.inj e))]
      cases hl : lv d with
      | false => rw [show lvD lv (some d) = none from by simp [lvD, hl]]; rfl
      | true =>
        rw [show lvD lv (some d) = some d from by simp [lvD, hl]]
        refine rd_set _ _ _ _ fun he => ?_
        unfold toOf at he
        split at he
        · cases he
        · cases hb : Nat.ble t 1000000 with
          | true =>
            rw [hb] at he
            have he : EO.t (Ps.of t) = .t (Ps.of d) := he
            exact ht (Ps.of_inj (Nat.le_of_ble_eq_true hd.2) (Nat.le_of_ble_eq_true hb) (EO.t.inj he).symm)
          | false => rw [hb] at he; cases he
end
end
end Ev
