/- The walks of package twin: steps. -/
import Derived.Test.YtafopojibpifoaaGreatMAC
import Derived.Maps.OwnOps
import Derived.Maps.OwnSet
import Derived.Maps.Views
import Derived.Maps.Keyed
import Derived.Maps.Ext
import Derived.Test.YtafopojibpifoaaGreatMAA
import Derived.Conc.LoneCalls
import Derived.Conc.LoneSelect
import Derived.Calls
import Derived.Ground.SlgnProg
import Derived.Shelf.SlicesE.Clone
import Derived.Ground.SlgfProg
import Derived.Shelf.SlicesE.IndexFunc
import Derived.Shelf.SlicesE.DeleteFunc
import Derived.Test.YtafopojibpifoaaGreatProg

namespace Go.Proofs.YtafopojibpifoaaGreat
open Go.RowKit

namespace Sp
theorem act_fuse (d : Dk) (a : TAct) (h : d.fuse = -1) : (d.act a).fuse = -1 := by
  cases a <;> simp [Dk.act, Dk.put, Dk.synced, burn, h]
theorem act_sure (d : Dk) (a : TAct) : (d.act a).sure.length = d.sure.length := by
  cases a <;> simp [Dk.act, Dk.put, Dk.synced, Dk.view]
theorem act_loose (d : Dk) (a : TAct) : (d.act a).loose.length ≤ d.loose.length + 1 := by
  cases a <;> simp [Dk.act, Dk.put, Dk.synced]
theorem acts_snoc (d : Dk) (l : List TAct) (a : TAct) : d.acts (l ++ [a]) = (d.acts l).act a := by simp [Dk.acts]
theorem acts_app (d : Dk) (l m : List TAct) : d.acts (l ++ m) = (d.acts l).acts m := by simp [Dk.acts]
theorem acts_fuse (d : Dk) (h : d.fuse = -1) : ∀ l, (d.acts l).fuse = -1 := fun l => by
  induction l generalizing d with
  | nil => exact h
  | cons a l ih => exact ih (d.act a) (act_fuse d a h)
theorem acts_sure (d : Dk) : ∀ l, (d.acts l).sure.length = d.sure.length := fun l => by
  induction l generalizing d with
  | nil => rfl
  | cons a l ih => exact (ih (d.act a)).trans (act_sure d a)
theorem acts_loose (d : Dk) : ∀ l, (d.acts l).loose.length ≤ d.loose.length + l.length := fun l => by
  induction l generalizing d with
  | nil => exact Nat.le_refl _
  | cons a l ih =>
    have h1 := ih (d.act a)
    have h2 := act_loose d a
    show (Dk.acts (d.act a) l).loose.length ≤ _
    rw [List.length_cons]
    omega
end Sp

/-- A list of such values. -/
def IsActs (G : Foot) (w : World) (g : Nat) (fs : List Value) (as_ : List Sp.TAct) : Prop :=
  fs.length = as_.length ∧ ∀ (i : Nat) (v : Value) (a : Sp.TAct), fs[i]? = some v → as_[i]? = some a → IsAct G w g v a

theorem IsActs.nil (G : Foot) (w : World) (g : Nat) : IsActs G w g [] [] := ⟨rfl, fun i v a h => by simp at h⟩
theorem IsActs.app {G : Foot} {w : World} {g : Nat} {fs hs : List Value} {as_ bs : List Sp.TAct} (h : IsActs G w g fs as_) (k : IsActs G w g hs bs) : IsActs G w g (fs ++ hs) (as_ ++ bs) := by
  refine ⟨by simp [h.1, k.1], fun i v a hv ha => ?_⟩
  rcases Nat.lt_or_ge i fs.length with hi | hi
  · rw [List.getElem?_append_left hi] at hv
    rw [List.getElem?_append_left (by rw [← h.1]; exact hi)] at ha
    exact h.2 i v a hv ha
  · rw [List.getElem?_append_right hi] at hv
    rw [List.getElem?_append_right (by rw [← h.1]; exact hi), ← h.1] at ha
    exact k.2 _ v a hv ha
theorem IsActs.one {G : Foot} {w : World} {g : Nat} {v : Value} {a : Sp.TAct} (h : IsAct G w g v a) : IsActs G w g [v] [a] := by
  refine ⟨rfl, fun i v' a' hv ha => ?_⟩
  cases i with
  | zero => simp at hv ha; subst hv ha; exact h
  | succ i => simp at hv
theorem IsActs.keep {G : Foot} {w w' : World} {g : Nat} {fs : List Value} {as_ : List Sp.TAct} (h : IsActs G w g fs as_) (hk : ∀ b, G b → w'.heap[b]? = w.heap[b]?) : IsActs G w' g fs as_ := ⟨h.1, fun i v a hv ha => (h.2 i v a hv ha).keep hk⟩
theorem IsActs.mono {G G' : Foot} {w : World} {g : Nat} {fs : List Value} {as_ : List Sp.TAct} (h : IsActs G w g fs as_) (hG : ∀ b, G b → G' b) : IsActs G' w g fs as_ := ⟨h.1, fun i v a hv ha => (h.2 i v a hv ha).mono hG⟩

set_option maxRecDepth 100000 in
set_option maxHeartbeats 4000000 in
theorem twin_steps {F G : Foot} {w : World} {g : Nat} {d : Sp.Dk} (h : IsDk F w g d) (hf : d.fuse = -1) {A : Option Addr} {c : Nat} {fs : List Value} {as_ : List Sp.TAct} (hR : Reads G w 1 A fs.length fs)
    (hA : IsActs G w g fs as_) (hG : Apart w F G) (hok : ∀ a ∈ as_, a.ok d.sure.length) (hn : d.loose.length + as_.length ≤ 1000000) :
    Calls Tryz.prog 85 #[.slice A fs.length c] w (ActPost F w g (d.acts as_)) := by
  have HD := Lib.hid h
  have HF := Lib.hid hf
  have HR := Lib.hid hR
  have HA := Lib.hid hA
  have HG := Lib.hid hG
  have HOK := Lib.hid hok
  have HLEN := Lib.hid hA.1
  have hlen : fs.length ≤ 1000000 := by rw [hA.1]; omega
  clear h hf hR hA hG hok
  go_enter Tryz.func85, Tryz.ntmps85
  go_wp2_with fail
  go_loopw [4, 5, 8] (fun _ _ i wr => ∃ (k : Nat) (F' : Foot), k ≤ fs.length ∧ i = .int .i64 k ∧ IsDk F' wr g (d.acts (as_.take k)) ∧ Turns F F' w wr) (fun _ _ i _ => fs.length - (intOf i).toNat)
  case atStart => exact ⟨0, F, by omega, rfl, by simpa [Sp.Dk.acts] using HD.out, Turns.refl _ _⟩
  case round =>
    obtain ⟨k, F1, hk, rfl, hD, ht⟩ := hrel
    by_cases hlt : k < fs.length
    · have hka : k < as_.length := by rw [← HLEN.out]; exact hlt
      have hsn : Hid (d.acts (as_.take (k + 1)) = (d.acts (as_.take k)).act as_[k]) := Lib.hid (by
        rw [List.take_succ_eq_append_getElem hka, Sp.acts_snoc])
      have hG1 := ht.apart HG.out
      obtain ⟨b, o, u, rfl, _, _, hu, hc⟩ := (HR.out.turns ht HG.out).at_ hlt
      have hAk := (HA.out.2 k u as_[k] hu (List.getElem?_eq_getElem hka)).keep (ht.keep HG.out)
      have hokk := HOK.out _ (List.getElem_mem hka)
      have hfu : (d.acts (as_.take k)).fuse ≠ 0 := by rw [Sp.acts_fuse d HF.out]; decide
      have hsu := Sp.acts_sure d (as_.take k)
      have hlo : (d.acts (as_.take k)).loose.length ≤ 1000000 := by
        have h1 := Sp.acts_loose d (as_.take k)
        rw [List.length_take] at h1
        have := Nat.min_le_right k as_.length
        omega
      have hmeas : k + 1 ≤ fs.length := hlt
      generalize hak : as_[k] = a at *
      cases a with
      | sync =>
        have e : u = _ := hAk
        subst e
        have HC := Lib.hid (disk_sync hD hfu hlo)
        have HT := Lib.hid ht
        clear hak hD ht hAk hu hsu hG1 hokk
        go_wp2_with fail
        refine HC.out.mono ?_
        rintro e w1 ⟨F2, rfl, hD1, _, ht1⟩
        have HD1 := Lib.hid hD1
        have HT1 := Lib.hid (HT.out.trans ht1)
        clear hD1 ht1
        go_wp2_with fail
        go_roundw
        case rel => exact ⟨k + 1, F2, hmeas, by go_num, by rw [hsn.out]; exact HD1.out, HT1.out⟩
        case measure => simp [intOf]; omega
      | wr q s =>
        obtain ⟨ok1, ok2⟩ := hokk
        rcases hAk with ⟨b0, b1, b2, b3, p, t, j, rfl, ⟨g0, g1, g2, g3⟩, h0, h1, h2, h3, hj, ht5, rfl⟩ | ⟨b0, b1, b2, rfl, ⟨g0, g1, g2⟩, h0, h1, h2⟩
        · have HC := Lib.hid (homes1_any hD q p j t (by rw [hsu]; exact ok1) ht5 hj hfu hlo h0 h1 h2 h3 ⟨(hG1 _ g0).2, (hG1 _ g1).2, (hG1 _ g2).2, (hG1 _ g3).2⟩)
          have HT := Lib.hid ht
          clear hak hD ht hu hsu hG1 h0 h1 h2 h3 ht5 ok2
          go_wp2_with fail
          refine HC.out.mono ?_
          rintro e w1 ⟨F2, rfl, hD1, ht1⟩
          have HD1 := Lib.hid hD1
          have HT1 := Lib.hid (HT.out.trans ht1)
          clear hD1 ht1
          go_wp2_with fail
          go_roundw
          case rel => exact ⟨k + 1, F2, hmeas, by go_num, by rw [hsn.out]; exact HD1.out, HT1.out⟩
          case measure => simp [intOf]; omega
        · have HC := Lib.hid (marks1_any hD q s (by rw [hsu]; exact ok1) ok2 hfu hlo h0 h1 h2)
          have HT := Lib.hid ht
          clear hak hD ht hu hsu hG1 h0 h1 h2 ok2
          go_wp2_with fail
          refine HC.out.mono ?_
          rintro e w1 ⟨F2, rfl, hD1, ht1⟩
          have HD1 := Lib.hid hD1
          have HT1 := Lib.hid (HT.out.trans ht1)
          clear hD1 ht1
          go_wp2_with fail
          go_roundw
          case rel => exact ⟨k + 1, F2, hmeas, by go_num, by rw [hsn.out]; exact HD1.out, HT1.out⟩
          case measure => simp [intOf]; omega
    · obtain rfl : k = fs.length := by omega
      rw [HLEN.out, List.take_length] at hD
      have HD1 := Lib.hid hD
      have HT1 := Lib.hid ht
      clear hD ht
      go_wp2_with fail
      go_ret
      exact ⟨F1, rfl, HD1.out, HT1.out⟩
end Go.Proofs.YtafopojibpifoaaGreat

/- The walks of package twin: marks, homes. -/
namespace Go.Proofs.YtafopojibpifoaaGreat
open Go.RowKit

theorem fn_info : (Tryz.prog.info? 214).map (fun i => (i.zero, i.size, i.bytes)) = some (some .nilFunc, 1, 8) := by kernel_rfl

set_option maxRecDepth 100000 in
set_option maxHeartbeats 2000000 in
theorem twin_marks {w : World} (g k : Nat) (s : Sp.Bs) :
    Calls Tryz.prog 83 #[ptr g, .int .i64 k, str s] w fun e w' => ∃ b c fs, e = .returned (.slice (some ⟨b, 0, none⟩) 2 c) ∧ w.heap.size ≤ b ∧ Blk w' b 214 fs.toArray ∧ fs.length = 2 ∧ (∀ u ∈ fs, u.oneCell' = true) ∧
      IsActs (fun b => w.heap.size ≤ b) w' g fs [.wr k s, .sync] ∧ Below w.heap.size w w' := by
  go_enter Tryz.func83, Tryz.ntmps83
  go_wp2_with fail
  go_ret
  have hb := (((((Below.refl _ w).alloc (Nat.le_refl _) (.cells #[ptr g] 75)).alloc (by simp) (.cells #[.int .i64 (k : Nat)] 3)).alloc (by simp; omega) (.cells #[str s] 9)).alloc (by simp; omega) (.cells #[.func (.func 128) #[] #[ptr w.heap.size, ptr (w.heap.size + 1), ptr (w.heap.size + 1 + 1)], .func (.func 127) #[ptr g] #[]] 214))
  have b0 := (((Blk.new w 75 #[ptr g]).alloc (.cells #[.int .i64 (k : Nat)] 3)).alloc (.cells #[str s] 9)).alloc (.cells #[.func (.func 128) #[] #[ptr w.heap.size, ptr (w.heap.size + 1), ptr (w.heap.size + 1 + 1)], .func (.func 127) #[ptr g] #[]] 214)
  have b1 := ((Blk.new (w.alloc (.cells #[ptr g] 75)) 3 #[.int .i64 (k : Nat)]).alloc (.cells #[str s] 9)).alloc (.cells #[.func (.func 128) #[] #[ptr w.heap.size, ptr (w.heap.size + 1), ptr (w.heap.size + 1 + 1)], .func (.func 127) #[ptr g] #[]] 214)
  have b2 := (Blk.new ((w.alloc (.cells #[ptr g] 75)).alloc (.cells #[.int .i64 (k : Nat)] 3)) 9 #[str s]).alloc (.cells #[.func (.func 128) #[] #[ptr w.heap.size, ptr (w.heap.size + 1), ptr (w.heap.size + 1 + 1)], .func (.func 127) #[ptr g] #[]] 214)
  have b3 := Blk.new (((w.alloc (.cells #[ptr g] 75)).alloc (.cells #[.int .i64 (k : Nat)] 3)).alloc (.cells #[str s] 9)) 214 #[.func (.func 128) #[] #[ptr w.heap.size, ptr (w.heap.size + 1), ptr (w.heap.size + 1 + 1)], .func (.func 127) #[ptr g] #[]]
  simp only [World.size_alloc] at b1 b2 b3
  refine ⟨_, 2, [.func (.func 128) #[] #[ptr w.heap.size, ptr (w.heap.size + 1), ptr (w.heap.size + 1 + 1)], .func (.func 127) #[ptr g] #[]], rfl, by omega, b3, rfl, ?_, ?_, hb⟩
  · intro u hu
    rcases List.mem_cons.1 hu with rfl | hu
    · rfl
    · rw [List.mem_singleton.1 hu]; rfl
  · exact (IsActs.one (a := .wr k s) (.inr ⟨_, _, _, rfl, ⟨Nat.le_refl _, by omega, by omega⟩, b0, b1, b2⟩)).app (IsActs.one (a := .sync) rfl)

/-- Homes as cells. -/
def hcs (l : List (Nat × Sp.Bs)) : List Value := (l.map fun x => [.int .u32 (x.1 : Nat), str x.2]).flatten
theorem hcs_length (l : List (Nat × Sp.Bs)) : (hcs l).length = l.length * 2 := flatten_length_all _ 2 l (fun _ _ => rfl)
theorem hcs_app (a b : List (Nat × Sp.Bs)) : hcs (a ++ b) = hcs a ++ hcs b := by simp [hcs]
theorem hcs_at {l : List (Nat × Sp.Bs)} {i : Nat} (hi : i < l.length) : (hcs l)[i * 2]? = some (.int .u32 (l[i].1 : Nat)) ∧ (hcs l)[i * 2 + 1]? = some (str l[i].2) := by
  have e : l = l.take i ++ l[i] :: l.drop (i + 1) := by rw [← List.drop_eq_getElem_cons hi, List.take_append_drop]
  have h1 : (hcs (l.take i)).length = i * 2 := by rw [hcs_length, List.length_take, Nat.min_eq_left (by omega)]
  have e2 : hcs l = hcs (l.take i) ++ ([.int .u32 (l[i].1 : Nat), str l[i].2] ++ hcs (l.drop (i + 1))) := by
    conv => lhs; rw [e]
    rw [hcs_app]; rfl
  rw [e2]
  constructor
  · rw [List.getElem?_append_right (by omega), h1, Nat.sub_self]; rfl
  · rw [List.getElem?_append_right (by omega), h1, show i * 2 + 1 - i * 2 = 1 by omega]; rfl

theorem Reads.home {G : Foot} {w : World} {A : Option Addr} {l : List (Nat × Sp.Bs)} (h : Reads G w 2 A l.length (hcs l)) {k : Nat} (hk : k < l.length) :
    ∃ b o, A = some ⟨b, o, none⟩ ∧ G b ∧ b < w.heap.size ∧ w.cell? ⟨b, o + k * 2, none⟩ = some (.int .u32 (l[k].1 : Nat)) ∧ w.cell? ⟨b, o + k * 2 + 1, none⟩ = some (str l[k].2) := by
  obtain ⟨b, o, e, hG, hb, hc⟩ := h.2 (by omega)
  have h2 := hcs_at hk
  exact ⟨b, o, e, hG, hb, hc _ _ h2.1, hc _ _ h2.2⟩

def Sp.homeActs (base : Nat) (x : Nat × Sp.Bs) : List Sp.TAct := (List.range 4).map fun j => .wr (base + x.1 * 4 + j) ((x.2.drop (j * 128)).take 128)
def Sp.homesActs (base : Nat) (l : List (Nat × Sp.Bs)) : List Sp.TAct := (l.map (Sp.homeActs base)).flatten

theorem Sp.homeActs_length (base : Nat) (x : Nat × Sp.Bs) : (Sp.homeActs base x).length = 4 := by simp [Sp.homeActs]
theorem Sp.homesActs_length (base : Nat) (l : List (Nat × Sp.Bs)) : (Sp.homesActs base l).length = l.length * 4 := flatten_length_all _ 4 l (fun _ _ => Sp.homeActs_length _ _)
theorem Sp.homesActs_app (base : Nat) (a b : List (Nat × Sp.Bs)) : Sp.homesActs base (a ++ b) = Sp.homesActs base a ++ Sp.homesActs base b := by simp [Sp.homesActs]
theorem Sp.homesActs_succ (base : Nat) (l : List (Nat × Sp.Bs)) (i : Nat) (hi : i < l.length) : Sp.homesActs base (l.take (i + 1)) = Sp.homesActs base (l.take i) ++ Sp.homeActs base l[i] := by
  rw [List.take_succ_eq_append_getElem hi, Sp.homesActs_app]; simp [Sp.homesActs]
theorem Sp.homeActs_succ (base : Nat) (x : Nat × Sp.Bs) (j : Nat) (hj : j < 4) : (Sp.homeActs base x).take (j + 1) = (Sp.homeActs base x).take j ++ [.wr (base + x.1 * 4 + j) ((x.2.drop (j * 128)).take 128)] := by
  rw [List.take_succ_eq_append_getElem (by rw [Sp.homeActs_length]; exact hj)]
  simp [Sp.homeActs]

theorem IsAct.grown {G : Foot} {w w' : World} {g : Nat} {v : Value} {a : Sp.TAct} {row : Option Nat} (h : IsAct G w g v a) (hg : w.grownBy w' row) (hr : ∀ r, row = some r → ∃ cs, Blk w r 214 cs) : IsAct G w' g v a := by
  have key : ∀ {b t cs}, Blk w b t cs → t ≠ 214 → Blk w' b t cs := fun {b t cs} hb hne => hb.grown hg (fun e => by
    obtain ⟨cs', hc⟩ := hr _ e.symm
    exact Blk.ne_ hb hc hne rfl)
  cases a with
  | sync => exact h
  | wr k s =>
    rcases h with ⟨b0, b1, b2, b3, p, t, j, e, hG, h0, h1, h2, h3, rest⟩ | ⟨b0, b1, b2, e, hG, h0, h1, h2⟩
    · exact .inl ⟨b0, b1, b2, b3, p, t, j, e, hG, key h0 (by decide), key h1 (by decide), key h2 (by decide), key h3 (by decide), rest⟩
    · exact .inr ⟨b0, b1, b2, e, hG, key h0 (by decide), key h1 (by decide), key h2 (by decide)⟩
theorem IsActs.grown {G : Foot} {w w' : World} {g : Nat} {fs : List Value} {as_ : List Sp.TAct} {row : Option Nat} (h : IsActs G w g fs as_) (hg : w.grownBy w' row) (hr : ∀ r, row = some r → ∃ cs, Blk w r 214 cs) : IsActs G w' g fs as_ :=
  ⟨h.1, fun i v a hv ha => (h.2 i v a hv ha).grown hg hr⟩
theorem IsActs.below {G : Foot} {w w' : World} {g : Nat} {fs : List Value} {as_ : List Sp.TAct} (h : IsActs G w g fs as_) (hb : Below w.heap.size w w') : IsActs G w' g fs as_ :=
  h.grown (row := none) ⟨hb.os, hb.tape, hb.output, hb.size, fun b hb' _ => hb.block b hb'⟩ (fun r e => by cases e)

theorem own_blk {w : World} {base e size n : Nat} {v : Value} {xs : List Value} (h : w.ownsRow base e size v n xs) : ∀ r, v.ownBlock = some r → ∃ cs, Blk w r e cs := by
  intro r hr
  rcases h.2 with ⟨rfl, _⟩ | ⟨b, cap, cur, rfl, _, hh, _⟩
  · cases hr
  · have : b = r := by simpa [Value.ownBlock] using hr
    subst this
    exact ⟨cur, hh⟩

set_option maxRecDepth 100000 in
set_option maxHeartbeats 4000000 in
theorem twin_homes {G : Foot} {w : World} (g base : Nat) {A : Option Addr} {c : Nat} {l : List (Nat × Sp.Bs)} (hR : Reads G w 2 A l.length (hcs l)) (hl : l.length ≤ 1000) (hp : ∀ x ∈ l, x.1 < 4294967296 ∧ x.2.length = 512) (hb : base ≤ 1000000) :
    Calls Tryz.prog 82 #[ptr g, .int .i64 base, .slice A l.length c] w fun e w' => ∃ v fs, e = .returned v ∧ w'.ownsRow w.heap.size 214 1 v (l.length * 4 + 1) fs ∧
      IsActs (fun b => w.heap.size ≤ b) w' g fs (Sp.homesActs base l ++ [.sync]) ∧ Below w.heap.size w w' := by
  obtain ⟨i0, hi, hz0, hz1, hz2⟩ := info_parts fn_info
  have HR := Lib.hid hR
  have HP := Lib.hid hp
  clear hR hp
  go_enter Tryz.func82, Tryz.ntmps82
  go_wp2_with fail
  have hbx0 : Hid (Blk (w.alloc (.cells #[ptr g] 75)) w.heap.size 75 #[ptr g]) := Blk.new w _ _
  have hbw0 := (Below.refl _ w).alloc (Nat.le_refl _) (.cells #[ptr g] 75)
  have hs0 : w.heap.size < (w.alloc (.cells #[ptr g] 75)).heap.size := by simp
  generalize w.alloc (.cells #[ptr g] 75) = w1 at *
  go_loopw [6, 8, 9, 10, 13, 17] (fun v _ _ _ i _ wr => ∃ (k : Nat) (fs : List Value), k ≤ l.length ∧ i = .int .i64 k ∧ wr.ownsRow w.heap.size 214 1 v (k * 4) fs ∧
      IsActs (fun b => w.heap.size ≤ b) wr g fs (Sp.homesActs base (l.take k)) ∧ Below w.heap.size w wr ∧ Blk wr w.heap.size 75 #[ptr g]) (fun _ _ _ _ i _ _ => l.length - (intOf i).toNat)
  case atStart => exact ⟨0, [], by omega, rfl, by simpa using World.ownsRow_nil _ _ _ _, by simpa [Sp.homesActs] using IsActs.nil _ _ _, hbw0, hbx0.out⟩
  case round =>
    obtain ⟨wo, rfl⟩ : ∃ wo : World, wo = wr := ⟨_, rfl⟩
    obtain ⟨k, fs, hk, rfl, hO, hA, hbr, hB⟩ := hrel
    by_cases hlt : k < l.length
    · obtain ⟨b, o, rfl, _, _, r0, r1⟩ := (Reads.below HR.out hbr).home hlt
      have hpk := HP.out _ (List.getElem_mem hlt)
      have hp1 : l[k].1 < 4294967296 := hpk.1
      have htx := Lib.hid hpk.2
      have hsn := Lib.hid (Sp.homesActs_succ base l k hlt)
      have hmeas : k + 1 ≤ l.length := hlt
      clear hpk
      generalize hx : l[k] = x at *
      obtain ⟨p, t⟩ := x
      dsimp only at *
      have hB8 := Lib.hid (Blk.new wo 132 #[.int .u32 (p : Nat), str t])
      have hA8 := Lib.hid (hA.below ((Below.refl _ wo).alloc (Nat.le_refl _) (.cells #[.int .u32 (p : Nat), str t] 132)))
      have hO8 := Lib.hid (hO.alloc (.cells #[.int .u32 (p : Nat), str t] 132))
      have hBx := Lib.hid (hB.alloc (.cells #[.int .u32 (p : Nat), str t] 132))
      have hbr8 := hbr.alloc hbr.size (.cells #[.int .u32 (p : Nat), str t] 132)
      have hs8 : wo.heap.size < (wo.alloc (.cells #[.int .u32 (p : Nat), str t] 132)).heap.size := by simp
      have hs9 := hbr.size
      clear hx hO hA hB
      go_wp2_with fail
      obtain ⟨w8, hw8⟩ : ∃ w8, wo.alloc (.cells #[.int .u32 (p : Nat), str t] 132) = w8 := ⟨_, rfl⟩
      rw [hw8] at hB8 hA8 hO8 hBx hbr8 hs8 ⊢
      clear r0 r1 hw8
      go_loopw [6, 9, 10, 17] (fun v _ _ j W => ∃ (q : Nat) (fs : List Value), q ≤ 4 ∧ j = .int .i64 q ∧ W.ownsRow w.heap.size 214 1 v (k * 4 + q) fs ∧
        IsActs (fun b => w.heap.size ≤ b) W g fs (Sp.homesActs base (l.take k) ++ (Sp.homeActs base (p, t)).take q) ∧ Below w.heap.size w W ∧ Blk W w.heap.size 75 #[ptr g] ∧ Blk W wo.heap.size 132 #[.int .u32 (p : Nat), str t]) (fun _ _ _ j _ => 4 - (intOf j).toNat)
      case atStart => exact ⟨0, fs, by omega, rfl, hO8.out, by simpa using hA8.out, hbr8, hBx.out, hB8.out⟩
      case round =>
        obtain ⟨q, fs2, hq, rfl, hO, hA, hbr9, hB, hB2⟩ := hrel
        by_cases hlt2 : q < 4
        · have c2 := hB2.cell 0
          simp only [List.getElem?_toArray, List.getElem?_cons_zero] at c2
          have hlt8 := hB2.lt
          have hlt0 := hB.lt
          have hsn2 := Lib.hid (Sp.homeActs_succ base (p, t) q hlt2)
          have HO := Lib.hid (((hO.alloc (.cells #[.int .i64 (q : Nat)] 3)).alloc (.cells #[.int .i64 ((base : Int) + p * 4 + q)] 3)).alloc (.cells #[.func (.func 125) #[] #[ptr w.heap.size, ptr (wr.heap.size + 1), ptr wo.heap.size, ptr wr.heap.size]] 214))
          have HB := Lib.hid (((hB.alloc (.cells #[.int .i64 (q : Nat)] 3)).alloc (.cells #[.int .i64 ((base : Int) + p * 4 + q)] 3)).alloc (.cells #[.func (.func 125) #[] #[ptr w.heap.size, ptr (wr.heap.size + 1), ptr wo.heap.size, ptr wr.heap.size]] 214))
          have HB2 := Lib.hid (((hB2.alloc (.cells #[.int .i64 (q : Nat)] 3)).alloc (.cells #[.int .i64 ((base : Int) + p * 4 + q)] 3)).alloc (.cells #[.func (.func 125) #[] #[ptr w.heap.size, ptr (wr.heap.size + 1), ptr wo.heap.size, ptr wr.heap.size]] 214))
          have hbW : Below wr.heap.size wr (((wr.alloc (.cells #[.int .i64 (q : Nat)] 3)).alloc (.cells #[.int .i64 ((base : Int) + p * 4 + q)] 3)).alloc (.cells #[.func (.func 125) #[] #[ptr w.heap.size, ptr (wr.heap.size + 1), ptr wo.heap.size, ptr wr.heap.size]] 214)) := (((Below.refl _ wr).alloc (Nat.le_refl _) _).alloc (by simp) _).alloc (by simp; omega) _
          have HA := Lib.hid (hA.below hbW)
          have hbr10 := hbr9.trans (hbW.mono hbr9.size)
          have B9 := Lib.hid (((Blk.new wr 3 #[.int .i64 (q : Nat)]).alloc (.cells #[.int .i64 ((base : Int) + p * 4 + q)] 3)).alloc (.cells #[.func (.func 125) #[] #[ptr w.heap.size, ptr (wr.heap.size + 1), ptr wo.heap.size, ptr wr.heap.size]] 214))
          have B10 : Hid (Blk (((wr.alloc (.cells #[.int .i64 (q : Nat)] 3)).alloc (.cells #[.int .i64 ((base : Int) + p * 4 + q)] 3)).alloc (.cells #[.func (.func 125) #[] #[ptr w.heap.size, ptr (wr.heap.size + 1), ptr wo.heap.size, ptr wr.heap.size]] 214)) (wr.heap.size + 1) 3 #[.int .i64 ((base : Int) + p * 4 + q)]) := by
            have := (Blk.new (wr.alloc (.cells #[.int .i64 (q : Nat)] 3)) 3 #[.int .i64 ((base : Int) + p * 4 + q)]).alloc (.cells #[.func (.func 125) #[] #[ptr w.heap.size, ptr (wr.heap.size + 1), ptr wo.heap.size, ptr wr.heap.size]] 214)
            rw [World.size_alloc] at this
            exact this
          have hs10 := hbr9.size
          clear hO hA hB hB2 hbW
          go_wp2_with (at_builtin; refine wpList_append_own _ rfl _ _ 171 rfl w.heap.size 214 i0 .nilFunc 1 8 Tryz.underlying171 hi hz0 hz1 hz2 rfl (by decide) _ _ _ rfl HO.out ⟨wr.heap.size + 1 + 1, 0, none⟩ 1 1 [.func (.func 125) #[] #[ptr w.heap.size, ptr (wr.heap.size + 1), ptr wo.heap.size, ptr wr.heap.size]] rfl rfl (by have := cell_one_new ((wr.alloc (.cells #[.int .i64 (q : Nat)] 3)).alloc (.cells #[.int .i64 ((base : Int) + p * 4 + q)] 3)) (.func (.func 125) #[] #[ptr w.heap.size, ptr (wr.heap.size + 1), ptr wo.heap.size, ptr wr.heap.size]) 214; simpa only [World.size_alloc] using this) (fun x hx => by simp at hx; subst hx; rfl) (by unfold maxLen; omega) (by omega) (by simp; omega) ?_)
          intro v' w6 hown hgrow hnil
          have hrowb := own_blk HO.out
          have hA6 := HA.out.grown hgrow hrowb
          have hne9 : ∀ {b t cs}, Blk (((wr.alloc (.cells #[.int .i64 (q : Nat)] 3)).alloc (.cells #[.int .i64 ((base : Int) + p * 4 + q)] 3)).alloc (.cells #[.func (.func 125) #[] #[ptr w.heap.size, ptr (wr.heap.size + 1), ptr wo.heap.size, ptr wr.heap.size]] 214)) b t cs → t ≠ 214 → Blk w6 b t cs := fun {b t cs} hb hne => hb.grown hgrow (fun e => by
            obtain ⟨cs', hc⟩ := hrowb _ e.symm
            exact Blk.ne_ hb hc hne rfl)
          have h0 := hne9 HB.out (by decide)
          have h1 := hne9 B10.out (by decide)
          have h2 := hne9 HB2.out (by decide)
          have h3 := hne9 B9.out (by decide)
          have hb6 : Below w.heap.size w w6 := hbr10.grown hgrow hbr10.size (fun r e => (HO.out.lt r e).1)
          rw [show ((base : Int) + p * 4 + q) = ((base + p * 4 + q : Nat) : Int) by omega] at h1
          have hact : IsAct (fun b => w.heap.size ≤ b) w6 g (.func (.func 125) #[] #[ptr w.heap.size, ptr (wr.heap.size + 1), ptr wo.heap.size, ptr wr.heap.size]) (.wr (base + p * 4 + q) ((t.drop (q * 128)).take 128)) :=
            .inl ⟨_, _, _, _, p, t, q, rfl, ⟨Nat.le_refl _, by omega, by omega, by omega⟩, h0, h1, h2, h3, hlt2, htx.out, rfl⟩
          have HA7 := Lib.hid (hA6.app (IsActs.one hact))
          rw [List.append_assoc, ← hsn2.out] at HA7
          have HO7 := Lib.hid hown
          have H0 := Lib.hid h0
          have H2 := Lib.hid h2
          obtain ⟨g7, c7, rfl⟩ := own_form hown
          clear hnil hown hgrow hrowb hne9 hA6 h0 h1 h2 h3 hact c2
          go_wp2_with fail
          go_roundw
          case rel => exact ⟨q + 1, _, by omega, by go_num, HO7.out, HA7.out, hb6, H0.out, H2.out⟩
          case measure => simp [intOf]; omega
        · obtain rfl : q = 4 := by omega
          have h4 : (Sp.homeActs base (p, t)).take 4 = Sp.homeActs base (p, t) := List.take_of_length_le (by rw [Sp.homeActs_length]; exact Nat.le_refl _)
          rw [h4, ← hsn.out] at hA
          clear h4
          have HO7 := Lib.hid hO
          have HA7 := Lib.hid hA
          have H0 := Lib.hid hB
          clear hO hA hB hB2
          go_wp2_with fail
          go_roundw
          case rel => exact ⟨k + 1, _, hmeas, by go_num, by rw [show (k + 1) * 4 = k * 4 + 4 by omega]; exact HO7.out, HA7.out, hbr9, H0.out⟩
          case measure => simp [intOf]; omega
    · obtain rfl : k = l.length := by omega
      rw [List.take_length] at hA
      have c0 := hB.cell 0
      simp only [List.getElem?_toArray, List.getElem?_cons_zero] at c0
      have HA := Lib.hid (hA.below ((Below.refl _ wo).alloc (Nat.le_refl _) (.cells #[.func (.func 127) #[ptr g] #[]] 214)))
      have HO := Lib.hid (hO.alloc (.cells #[.func (.func 127) #[ptr g] #[]] 214))
      have hbr2 := hbr.alloc hbr.size (.cells #[.func (.func 127) #[ptr g] #[]] 214)
      have hs9 := hbr.size
      clear hA hO
      go_wp2_with (at_builtin; refine wpList_append_own _ rfl _ _ 171 rfl w.heap.size 214 i0 .nilFunc 1 8 Tryz.underlying171 hi hz0 hz1 hz2 rfl (by decide) _ _ _ rfl HO.out ⟨wo.heap.size, 0, none⟩ 1 1 [.func (.func 127) #[ptr g] #[]] rfl rfl (cell_one_new _ _ _) (fun x hx => by simp at hx; subst hx; rfl) (by unfold maxLen; omega) (by omega) (by simp; omega) ?_)
      intro v' w6 hown hgrow hnil
      have hA6 := (HA.out.grown hgrow (own_blk HO.out)).app (IsActs.one (a := .sync) (v := .func (.func 127) #[ptr g] #[]) rfl)
      have hb6 : Below w.heap.size w w6 := hbr2.grown hgrow hbr2.size (fun r e => (HO.out.lt r e).1)
      have HA7 := Lib.hid hA6
      have HO7 := Lib.hid hown
      obtain ⟨g7, c7, rfl⟩ := own_form hown
      clear hnil hown hgrow hA6 c0
      go_wp2_with fail
      go_ret
      exact ⟨_, _, rfl, HO7.out, HA7.out, hb6⟩
end Go.Proofs.YtafopojibpifoaaGreat

/- The walks of package twin: mark. -/
namespace Go.Proofs.YtafopojibpifoaaGreat
open Go.RowKit

namespace Sp
def markHead (l : List (Nat × Bs)) : Bs := [1, UInt8.ofNat l.length] ++ (l.map fun x => be 4 x.1).flatten
def markBs (l : List (Nat × Bs)) : Bs := sealed (markHead l ++ zeros (124 - (markHead l).length))
theorem markHead_length (l : List (Nat × Bs)) : (markHead l).length = 2 + 4 * l.length := by
  unfold markHead
  rw [List.length_append, flatten_length_all _ 4 l (fun _ _ => be_length 4 _)]
  simp; omega
theorem markBs_length {l : List (Nat × Bs)} (h : l.length ≤ 8) : (markBs l).length = 128 := by
  unfold markBs
  rw [sealed_length, List.length_append, markHead_length]
  simp only [zeros, List.length_replicate]
  omega
end Sp

set_option maxRecDepth 100000 in
set_option maxHeartbeats 4000000 in
theorem twin_mark {G : Foot} {w : World} {A : Option Addr} {c : Nat} {l : List (Nat × Sp.Bs)} (hR : Reads G w 2 A l.length (hcs l)) (hl : l.length ≤ 8) (hp : ∀ x ∈ l, x.1 < 4294967296) :
    Calls Tryz.prog 84 #[.slice A l.length c] w fun e w' => e = .returned (str (Sp.markBs l)) ∧ Below w.heap.size w w' := by
  have HR := Lib.hid hR
  have HP := Lib.hid hp
  have hbk : ∀ W : World, (convert 102 9 (.slice (some ⟨W.heap.size, 0, none⟩) 2 2)).run Tryz.prog (W.alloc (.cells #[.int .u8 1, .int .u8 (l.length : Nat)] 5)) = .ok (str [1, UInt8.ofNat l.length]) (W.alloc (.cells #[.int .u8 1, .int .u8 (l.length : Nat)] 5)) := fun W => by
    refine run_bytes_back _ _ _ 5 W.heap.size 0 2 2 [1, UInt8.ofNat l.length] Tryz.underlying102 Tryz.underlying5 Tryz.underlying9 rfl (fun j hj => ?_)
    refine ((Blk.new W 5 #[.int .u8 1, .int .u8 (l.length : Nat)]).cell (0 + j)).trans ?_
    match j, hj with
    | 0, _ => rfl
    | 1, _ =>
      simp only [List.getElem?_toArray, Nat.zero_add, List.getElem?_cons_succ, List.getElem?_cons_zero, List.getElem_cons_succ, List.getElem_cons_zero, UInt8.toNat_ofNat']
      rw [Nat.mod_eq_of_lt (by omega)]
  have HW : Hid (∀ (p : Nat) (W : World), p < 4294967296 → Calls Tryz.prog 100 #[.int .u64 (p : Nat), .int .i64 4] W fun e w' => e = .returned (.tuple #[str (Sp.be 4 p), .bool true]) ∧ Below W.heap.size W w') := fun p W hp => word_put p 4 W (by omega) (by omega) (by omega) (by omega)
  have hmk := run_zmake (124 - (Sp.markHead l).length) (by omega)
  have hzb := run_zback (124 - (Sp.markHead l).length)
  have hml := Sp.markHead_length l
  rw [show ((124 - (Sp.markHead l).length : Nat) : Int) = (124 : Int) - (Sp.markHead l).length by omega] at hmk
  have HS := Lib.hid fun (W : World) => sum_seal (Sp.markHead l ++ Sp.zeros (124 - (Sp.markHead l).length)) W (by simp [Sp.zeros]; omega)
  have HM : Hid (Sp.markHead l = [1, UInt8.ofNat l.length] ++ (l.map fun x => Sp.be 4 x.1).flatten) := rfl
  have HE : Hid (Sp.markBs l = Sp.sealed (Sp.markHead l ++ Sp.zeros (124 - (Sp.markHead l).length))) := rfl
  have HML := Lib.hid hml
  clear hR hp hml
  go_enter Tryz.func84, Tryz.ntmps84
  go_wp2_with fail
  have hb1 := (Below.refl _ w).alloc (Nat.le_refl _) (.cells #[.int .u8 1, .int .u8 (l.length : Nat)] 5)
  generalize w.alloc (.cells #[.int .u8 1, .int .u8 (l.length : Nat)] 5) = w1 at *
  go_loopw [3, 5, 6, 7, 15] (fun s _ _ _ i wr => ∃ k : Nat, k ≤ l.length ∧ i = .int .i64 k ∧ s = str ([1, UInt8.ofNat l.length] ++ ((l.take k).map fun x => Sp.be 4 x.1).flatten) ∧ Below w.heap.size w wr) (fun _ _ _ _ i _ => l.length - (intOf i).toNat)
  case atStart => exact ⟨0, by omega, rfl, by simp, hb1⟩
  case round =>
    obtain ⟨k, hk, rfl, rfl, hbr⟩ := hrel
    by_cases hlt : k < l.length
    · obtain ⟨b, o, rfl, _, _, r0, r1⟩ := (Reads.below HR.out hbr).home hlt
      have hpk := HP.out _ (List.getElem_mem hlt)
      have hsn : ((l.take (k + 1)).map fun x => Sp.be 4 x.1).flatten = ((l.take k).map fun x => Sp.be 4 x.1).flatten ++ Sp.be 4 l[k].1 := by
        rw [List.take_succ_eq_append_getElem hlt, List.map_append, List.flatten_append]
        simp only [List.map_cons, List.map_nil, List.flatten_cons, List.flatten_nil, List.append_nil]
      have hlen : ([1, UInt8.ofNat l.length] ++ ((l.take k).map fun x => Sp.be 4 x.1).flatten).length ≤ 1000 := by
        rw [List.length_append, flatten_length_all _ 4 _ (fun _ _ => Sp.be_length 4 _), List.length_take]
        have := Nat.min_le_right k l.length
        simp; omega
      have hlen4 : (Sp.be 4 l[k].1).length ≤ 4 := by rw [Sp.be_length]; exact Nat.le_refl _
      have HSN := Lib.hid hsn
      have hmeas : k + 1 ≤ l.length := hlt
      have HWK := Lib.hid fun W => HW.out l[k].1 W hpk
      have hb2 := hbr.alloc hbr.size (.cells #[.int .u32 (l[k].1 : Nat), str l[k].2] 132)
      have hs9 := hbr.size
      clear hsn
      generalize l[k] = x at *
      obtain ⟨p, t⟩ := x
      dsimp only at *
      generalize hs0 : [1, UInt8.ofNat l.length] ++ ((l.take k).map fun x => Sp.be 4 x.1).flatten = s0 at *
      have HS0 := Lib.hid hs0
      clear hs0
      generalize Sp.be 4 p = s1 at *
      go_wp2_with fail
      refine (HWK.out _).mono ?_
      rintro e w2 ⟨rfl, hb3⟩
      have hb4 := hb2.trans (hb3.mono hb2.size)
      clear hb2 hb3 r0 r1
      go_wp2_with fail
      go_roundw
      case rel => exact ⟨k + 1, hmeas, by go_num, by rw [HSN.out, ← List.append_assoc, HS0.out, str_append], hb4⟩
      case measure => simp [intOf]; omega
    · obtain rfl : k = l.length := by omega
      rw [List.take_length, ← HM.out]
      have hmll : (Sp.markHead l).length ≤ 34 := by rw [HML.out]; omega
      have hzl : (Sp.zeros (124 - (Sp.markHead l).length)).length ≤ 124 := by simp [Sp.zeros]
      have hbr2 := hbr.alloc hbr.size (.cells (zrow (124 - (Sp.markHead l).length)) 5)
      go_wp2_with fail
      rw [str_append]
      refine (HS.out _).mono ?_
      rintro e w2 ⟨rfl, hb3⟩
      rw [← HE.out]
      have hb4 := hbr2.trans (hb3.mono hbr2.size)
      go_wp2_with fail
      go_ret
      exact ⟨rfl, hb4⟩
end Go.Proofs.YtafopojibpifoaaGreat

/- Maps keyed by uint32, as plain functions of numbers. No program is named here. -/
namespace Go.Proofs.YtafopojibpifoaaGreat
open Go.RowKit Go.Maps

abbrev uKey (p : Nat) : Lit := .int .u32 (p : Int)
theorem uKey_wf {p : Nat} (h : p < 4294967296) : (uKey p).wf = true := by
  have h1 : IntKind.u32.min = 0 := rfl
  have h2 : IntKind.u32.max = 4294967295 := rfl
  simp [Lit.wf, h1, h2]; omega
theorem uKey_lit (p : Nat) : WideAt.IsKeyLit (uKey p) := trivial
theorem uKey_inj {p q : Nat} (h : uKey p = uKey q) : p = q := by
  injection h with _ h; omega

theorem bool_inv {H : Type} {P : Program} {e : TypeId} (he : P.underlying e = some .bool) {v : Value} {x : Bool} {ps : List MemPlace} (h : plainElem (H := H) P e v = some (.lit (.bool x), ps)) : v = .bool x := by
  unfold plainElem at h
  rw [he] at h
  cases v <;> simp at h
  rw [h.1]

/-- Block b is a set of these numbers, of map type [uint32]bool. -/
def USet (P : Program) (k e : TypeId) (w : World) (b n : Nat) (l : List Nat) : Prop := w.ownsMap P k (plainElem (H := Unit) P e) b n (setOf (.lit (.bool true)) (l.map uKey))

section
variable {P : Program} {k e t : TypeId} {w w' : World} {b n : Nat} {l : List Nat}
theorem USet.lt (h : USet P k e w b n l) : b < w.heap.size := World.ownsMap.lt h
theorem USet.kept {row : Option Nat} (h : USet P k e w b n l) (hg : w.grownBy w' row) (hne : some b ≠ row) : USet P k e w' b n l := World.ownsMap.kept h hg hne
theorem USet.alloc (h : USet P k e w b n l) (o : Obj) : USet P k e (w.alloc o) b n l := World.ownsMap.alloc h o
theorem USet.below {B : Nat} (h : USet P k e w b n l) (hb : Below B w w') (hlt : b < B) : USet P k e w' b n l := by
  obtain ⟨es, clock, h1, rest⟩ := h
  exact ⟨es, clock, (hb.block b hlt).trans h1, rest⟩
theorem USet.made (w : World) : USet P k e (w.alloc (.map #[] 0)) w.heap.size 0 [] := World.ownsMap_made w P k _

theorem USet.has_ (p : Nat) (l : List Nat) : has (setOf (H := Unit) (.lit (.bool true)) (l.map uKey)) (uKey p) = decide (p ∈ l) := by
  rw [has_setOf _ _ _ (fun x hx => by obtain ⟨q, _, rfl⟩ := List.mem_map.1 hx; exact uKey_lit q)]
  by_cases h : p ∈ l
  · simp only [h, decide_true]
    rw [List.any_eq_true]
    exact ⟨uKey p, List.mem_map.2 ⟨p, h, rfl⟩, WideAt.sameKey_self (uKey_lit p)⟩
  · simp only [h, decide_false]
    rw [List.any_eq_false]
    intro x hx
    obtain ⟨q, hq, rfl⟩ := List.mem_map.1 hx
    intro hs
    exact h (uKey_inj ((WideAt.sameKey_iff (uKey_lit p)).1 hs) ▸ hq)

/-- It is asked for a number that it has not. -/
theorem USet.look_not (h : USet P k e w b n l) (hk : P.underlying k = some (.int .u32)) (he : P.underlying e = some .bool) (ht : P.underlying t = some (.map k e)) (hz : (zeroValue e).run P w = .ok (.bool false) w) {p : Nat} (hp : p < 4294967296) (hn : p ∉ l) :
    (Instr.lookup t (.map (some b)) (.int .u32 (p : Int)) false).run P w = .ok (.bool false) w := by
  obtain ⟨v, ps, hrun, hv⟩ := World.ownsMap.lookup h (int_keyed hk) ht hz (plainElem_bool he false) (keyOf_int_mk hk (uKey_wf hp))
  have hno : has (setOf (H := Unit) (.lit (.bool true)) (l.map uKey)) (uKey p) = false := by rw [USet.has_]; simpa using hn
  rw [atKey_of_not_has hno] at hv
  rw [hrun, bool_inv he hv]

theorem USet.put (h : USet P k e w b n l) (hk : P.underlying k = some (.int .u32)) (he : P.underlying e = some .bool) (ht : P.underlying t = some (.map k e)) (hn : n < maxLen) {p : Nat} (hp : p < 4294967296) :
    ∃ w', (Instr.mapUpdate t (.map (some b)) (.int .u32 (p : Int)) (.bool true)).run P w = .ok () w' ∧ USet P k e w' b (n + 1) (l ++ [p]) ∧ w.grownBy w' (some b) := by
  obtain ⟨w', h1, h2, h3⟩ := World.ownsMap.update h (int_keyed hk) ht hn (keyOf_int_mk hk (uKey_wf hp)) (plainElem_bool he true)
  refine ⟨w', h1, ?_, h3⟩
  unfold USet
  rw [List.map_append, List.map_singleton, setOf_snoc]
  exact h2
end
end Go.Proofs.YtafopojibpifoaaGreat

/- The walks of package twin: may. -/
namespace Go.Proofs.YtafopojibpifoaaGreat
open Go.RowKit

theorem Tryz.zb (w : World) : (zeroValue 4).run Tryz.prog w = .ok (.bool false) w := by kernel_rfl

set_option maxRecDepth 100000 in
set_option maxHeartbeats 4000000 in
theorem twin_may {F G : Foot} {w : World} {g : Nat} {d : Sp.Dk} (h : IsDk F w g d) (at_ base : Nat) {A : Option Addr} {c : Nat} {l : List (Nat × Sp.Bs)} (hR : Reads G w 2 A l.length (hcs l)) (h1 : 1 ≤ l.length) (h8 : l.length ≤ 8)
    (hp : ∀ x ∈ l, x.1 < 4294967296 ∧ x.2.length = 512 ∧ Sp.inside d.sure.length at_ base x.1) (hn : (l.map (·.1)).Nodup) :
    Calls Tryz.prog 81 #[ptr g, .int .i64 at_, .int .i64 base, .slice A l.length c] w fun e w' => e = .returned (.bool true) ∧ Below w.heap.size w w' := by
  have HR := Lib.hid hR
  have HP := Lib.hid hp
  have HN := Lib.hid hn
  have HD := Lib.hid h
  have hmm := @run_makeMap Tryz.prog
  clear h hR hp hn
  go_enter Tryz.func81, Tryz.ntmps81
  go_wp2_with fail
  have hU0 : USet Tryz.prog 33 4 (w.alloc (.map #[] 0)) w.heap.size 0 [] := USet.made w
  have hb0 := (Below.refl _ w).alloc (Nat.le_refl _) (.map #[] 0)
  have HU0 := Lib.hid hU0
  clear hU0 hmm
  generalize w.alloc (.map #[] 0) = w1 at *
  go_loopw [11, 15] (fun _ i wr => ∃ k : Nat, k ≤ l.length ∧ i = .int .i64 k ∧ USet Tryz.prog 33 4 wr w.heap.size k ((l.take k).map (·.1)) ∧ Below w.heap.size w wr) (fun _ i _ => l.length - (intOf i).toNat)
  case atStart => exact ⟨0, by omega, rfl, HU0.out, hb0⟩
  case round =>
    obtain ⟨k, hk, rfl, hU, hbr⟩ := hrel
    by_cases hlt : k < l.length
    · obtain ⟨b, o, rfl, _, _, r0, r1⟩ := (Reads.below HR.out hbr).home hlt
      obtain ⟨hp1, hp2, hp3⟩ := HP.out _ (List.getElem_mem hlt)
      have hmeas : k + 1 ≤ l.length := hlt
      have hnot : l[k].1 ∉ (l.take k).map (·.1) := by
        have hs : l.map (·.1) = (l.take k).map (·.1) ++ l[k].1 :: (l.drop (k + 1)).map (·.1) := by
          conv => lhs; rw [← List.take_append_drop k l, List.drop_eq_getElem_cons hlt]
          rw [List.map_append, List.map_cons]
        have hnd := HN.out
        rw [hs, List.nodup_append] at hnd
        intro hm
        exact hnd.2.2 _ hm _ (List.mem_cons_self) rfl
      have hsn : (l.take (k + 1)).map (·.1) = (l.take k).map (·.1) ++ [l[k].1] := by
        rw [List.take_succ_eq_append_getElem hlt, List.map_append]; rfl
      have HSN := Lib.hid hsn
      have d1 : ((l[k].2.length : Int) != 512) = false := by rw [hp2]; rfl
      have hUa := hU.alloc (.cells #[.int .u32 (l[k].1 : Nat), str l[k].2] 132)
      have hrun := hUa.look_not Tryz.underlying33 Tryz.underlying4 Tryz.underlying82 (Tryz.zb _) hp1 hnot
      have hb2 := hbr.alloc hbr.size (.cells #[.int .u32 (l[k].1 : Nat), str l[k].2] 132)
      have HUA := Lib.hid hUa
      have hD2 := ((HD.out.below hbr).below ((Below.refl _ wr).alloc (Nat.le_refl _) (.cells #[.int .u32 (l[k].1 : Nat), str l[k].2] 132)))
      have HI := Lib.hid (twin_inside hD2 at_ base l[k].1 hp1 hp3)
      have hs9 := hbr.size
      clear hnot hsn hU hUa hp2 hp3 hD2
      generalize l[k] = x at *
      obtain ⟨p, t⟩ := x
      dsimp only at *
      go_wp2_with fail
      refine HI.out.mono ?_
      rintro e w2 ⟨rfl, hw⟩
      subst w2
      obtain ⟨w3, hrun3, hU3, hg3⟩ := HUA.out.put Tryz.underlying33 Tryz.underlying4 Tryz.underlying82 (by unfold maxLen; omega) hp1
      have HU3 := Lib.hid hU3
      have hb3 := hb2.grown hg3 hb2.size (fun r e => by cases e; exact Nat.le_refl _)
      clear hU3 hg3 hb2
      go_wp2_with fail
      go_roundw
      case rel => exact ⟨k + 1, hmeas, by go_num, by rw [HSN.out]; exact HU3.out, hb3⟩
      case measure => simp [intOf]; omega
    · obtain rfl : k = l.length := by omega
      have d2 : decide (1 ≤ (l.length : Int)) = true := by rw [decide_eq_true_eq]; omega
      have d3 : decide ((l.length : Int) ≤ 8) = true := by rw [decide_eq_true_eq]; omega
      clear hU
      go_wp2_with fail
      go_ret
      exact ⟨rfl, hbr⟩
end Go.Proofs.YtafopojibpifoaaGreat

/- The walks of package twin: Write. -/
namespace Go.Proofs.YtafopojibpifoaaGreat
open Go.RowKit

namespace Sp
def areaOf (l : List (Nat × Bs)) : List (Nat × Bs) := l.zipIdx.map fun x => (x.2, x.1.2)
theorem areaOf_length (l : List (Nat × Bs)) : (areaOf l).length = l.length := by simp [areaOf]
theorem areaOf_get (l : List (Nat × Bs)) (k : Nat) (hk : k < l.length) : (areaOf l)[k]? = some (k, l[k].2) := by simp [areaOf, hk]
theorem areaOf_succ (l : List (Nat × Bs)) (k : Nat) (hk : k < l.length) : (areaOf l).take (k + 1) = (areaOf l).take k ++ [(k, l[k].2)] := by
  rw [List.take_add_one, areaOf_get l k hk]; rfl
def twinActs (at_ base : Nat) (l : List (Nat × Bs)) : List TAct :=
  ((homesActs (at_ + 1) (areaOf l) ++ [.sync]) ++ [.wr at_ (markBs l), .sync]) ++ (homesActs base l ++ [.sync]) ++ [.wr at_ (zeros 128), .sync]
end Sp

theorem home_info : (Tryz.prog.info? 132).map (fun i => (i.zero, i.size, i.bytes)) = some (some (.agg #[.int .u32 0, .string ⟨#[]⟩]), 2, 24) := by kernel_rfl

theorem IsAct.lt {G : Foot} {w : World} {g : Nat} {v : Value} {a : Sp.TAct} (h : IsAct G w g v a) : IsAct (fun b => G b ∧ b < w.heap.size) w g v a := by
  cases a with
  | sync => exact h
  | wr k s =>
    rcases h with ⟨b0, b1, b2, b3, p, t, j, e, ⟨g0, g1, g2, g3⟩, h0, h1, h2, h3, rest⟩ | ⟨b0, b1, b2, e, ⟨g0, g1, g2⟩, h0, h1, h2⟩
    · exact .inl ⟨b0, b1, b2, b3, p, t, j, e, ⟨⟨g0, h0.lt⟩, ⟨g1, h1.lt⟩, ⟨g2, h2.lt⟩, ⟨g3, h3.lt⟩⟩, h0, h1, h2, h3, rest⟩
    · exact .inr ⟨b0, b1, b2, e, ⟨⟨g0, h0.lt⟩, ⟨g1, h1.lt⟩, ⟨g2, h2.lt⟩⟩, h0, h1, h2⟩
theorem IsAct.one_ {G : Foot} {w : World} {g : Nat} {v : Value} {a : Sp.TAct} (h : IsAct G w g v a) : v.oneCell' = true := by
  cases a with
  | sync =>
    have e : v = _ := h
    rw [e]; rfl
  | wr k s => rcases h with ⟨b0, b1, b2, b3, p, t, j, rfl, _⟩ | ⟨b0, b1, b2, rfl, _⟩ <;> rfl
theorem IsActs.one_ {G : Foot} {w : World} {g : Nat} {fs : List Value} {as_ : List Sp.TAct} (h : IsActs G w g fs as_) : ∀ u ∈ fs, u.oneCell' = true := by
  intro u hu
  obtain ⟨i, hi, rfl⟩ := List.mem_iff_getElem.1 hu
  have hia : i < as_.length := by rw [← h.1]; exact hi
  exact (h.2 i _ _ (List.getElem?_eq_getElem hi) (List.getElem?_eq_getElem hia)).one_
theorem IsActs.lt {G : Foot} {w : World} {g : Nat} {fs : List Value} {as_ : List Sp.TAct} (h : IsActs G w g fs as_) : IsActs (fun b => G b ∧ b < w.heap.size) w g fs as_ := ⟨h.1, fun i v a hv ha => (h.2 i v a hv ha).lt⟩

theorem hcs_cells (l : List (Nat × Sp.Bs)) : ∀ u ∈ hcs l, u.oneCell' = true := by
  intro u hu
  unfold hcs at hu
  rw [List.mem_flatten] at hu
  obtain ⟨x, hx, hu⟩ := hu
  obtain ⟨y, _, rfl⟩ := List.mem_map.1 hx
  rcases List.mem_cons.1 hu with rfl | hu
  · rfl
  · rw [List.mem_singleton.1 hu]; rfl

theorem own_form' {w : World} {base e size n : Nat} {v : Value} {xs : List Value} (h : w.ownsRow base e size v n xs) (hn : 1 ≤ n) : ∃ g c, v = .slice (some ⟨g, 0, none⟩) n c := by
  rcases h.2 with ⟨_, h0⟩ | ⟨g, c, _, h0, _⟩
  · omega
  · exact ⟨g, c, h0⟩
theorem own_reads {w : World} {base e size n g c : Nat} {xs : List Value} (h : w.ownsRow base e size (.slice (some ⟨g, 0, none⟩) n c) n xs) : Reads (fun b => base ≤ b) w size (some ⟨g, 0, none⟩) n xs := by
  refine ⟨h.1, fun _ => ⟨g, 0, rfl, (h.lt g rfl).1, (h.lt g rfl).2, fun j u hu => ?_⟩⟩
  have := h.cells (g := g) rfl j u hu
  rw [show (⟨g, 0, none⟩ : Addr).add j = ⟨g, 0 + j, none⟩ by unfold Addr.add; split <;> simp_all] at this
  exact this
theorem own_below {w w' : World} {base e size n : Nat} {v : Value} {xs : List Value} (h : w.ownsRow base e size v n xs) (hb : Below w.heap.size w w') : w'.ownsRow base e size v n xs :=
  h.kept (row := none) ⟨hb.os, hb.tape, hb.output, hb.size, fun k hk _ => hb.block k hk⟩ (by cases v.ownBlock <;> simp)
theorem add_lit (b j : Nat) : (⟨b, 0, none⟩ : Addr).add j = ⟨b, j, none⟩ := by unfold Addr.add; split <;> simp_all

theorem Reads.lt {G : Foot} {w : World} {size n : Nat} {A : Option Addr} {xs : List Value} (h : Reads G w size A n xs) : Reads (fun b => G b ∧ b < w.heap.size) w size A n xs :=
  ⟨h.1, fun hn => by
    obtain ⟨b, o, e, hG, hb, hc⟩ := h.2 hn
    exact ⟨b, o, e, ⟨hG, hb⟩, hb, hc⟩⟩

theorem Sp.homesActs_ok {n base : Nat} {l : List (Nat × Sp.Bs)} (h : ∀ x ∈ l, base + x.1 * 4 + 4 ≤ n ∧ x.2.length = 512) : ∀ a ∈ Sp.homesActs base l, a.ok n := by
  intro a ha
  unfold Sp.homesActs at ha
  rw [List.mem_flatten] at ha
  obtain ⟨y, hy, ha⟩ := ha
  obtain ⟨x, hx, rfl⟩ := List.mem_map.1 hy
  obtain ⟨j, hj, rfl⟩ := List.mem_map.1 ha
  have hj' := List.mem_range.1 hj
  obtain ⟨h1, h2⟩ := h x hx
  refine ⟨by omega, ?_⟩
  rw [List.length_take, List.length_drop]; omega

theorem Sp.areaOf_mem {l : List (Nat × Sp.Bs)} {x : Nat × Sp.Bs} (h : x ∈ Sp.areaOf l) : x.1 < l.length ∧ ∃ y ∈ l, x.2 = y.2 := by
  obtain ⟨k, hk, rfl⟩ := List.mem_iff_getElem.1 h
  have hk' : k < l.length := by rw [Sp.areaOf_length] at hk; exact hk
  have e := Sp.areaOf_get l k hk'
  rw [List.getElem?_eq_getElem hk, Option.some.injEq] at e
  rw [e]
  exact ⟨hk', l[k], List.getElem_mem hk', rfl⟩

theorem Sp.twinActs_ok {n at_ base : Nat} {l : List (Nat × Sp.Bs)} (h8 : l.length ≤ 8) (hp : ∀ x ∈ l, x.2.length = 512 ∧ Sp.inside n at_ base x.1) (ha : at_ + 33 ≤ n) : ∀ a ∈ Sp.twinActs at_ base l, a.ok n := by
  intro a h
  unfold Sp.twinActs at h
  have hs : Sp.TAct.ok n .sync := trivial
  have hm : Sp.TAct.ok n (.wr at_ (Sp.markBs l)) := ⟨by omega, Sp.markBs_length h8⟩
  have hz : Sp.TAct.ok n (.wr at_ (Sp.zeros 128)) := ⟨by omega, by simp [Sp.zeros]⟩
  have h1 := Sp.homesActs_ok (n := n) (base := at_ + 1) (l := Sp.areaOf l) (fun x hx => by
    obtain ⟨e1, y, hy, e2⟩ := Sp.areaOf_mem hx
    exact ⟨by omega, by rw [e2]; exact (hp y hy).1⟩)
  have h2 := Sp.homesActs_ok (n := n) (base := base) (l := l) (fun x hx => ⟨(hp x hx).2.1, (hp x hx).1⟩)
  simp only [List.mem_append, List.mem_cons, List.not_mem_nil, or_false] at h
  rcases h with (((h | rfl) | (rfl | rfl)) | (h | rfl)) | (rfl | rfl)
  · exact h1 a h
  · exact hs
  · exact hm
  · exact hs
  · exact h2 a h
  · exact hs
  · exact hz
  · exact hs
theorem Sp.twinActs_length (at_ base : Nat) (l : List (Nat × Sp.Bs)) : (Sp.twinActs at_ base l).length = l.length * 8 + 6 := by
  simp only [Sp.twinActs, List.length_append, Sp.homesActs_length, Sp.areaOf_length, List.length_cons, List.length_nil]
  omega

set_option maxRecDepth 100000 in
set_option maxHeartbeats 8000000 in
theorem twin_write {F G : Foot} {w : World} {g : Nat} {d : Sp.Dk} (h : IsDk F w g d) (hf : d.fuse = -1) (hlo : d.loose.length ≤ 1000) (at_ base : Nat) {A : Option Addr} {c : Nat} {l : List (Nat × Sp.Bs)} (hR : Reads G w 2 A l.length (hcs l)) (h1 : 1 ≤ l.length) (h8 : l.length ≤ 8)
    (hp : ∀ x ∈ l, x.1 < 4294967296 ∧ x.2.length = 512 ∧ Sp.inside d.sure.length at_ base x.1) (hn : (l.map (·.1)).Nodup) (ha : at_ + 33 ≤ d.sure.length) (hb : base ≤ d.sure.length) :
    Calls Tryz.prog 58 #[ptr g, .int .i64 at_, .int .i64 base, .slice A l.length c] w (ActPost F w g (d.acts (Sp.twinActs at_ base l))) := by
  obtain ⟨i0, hi, hz0, hz1, hz2⟩ := info_parts fn_info
  obtain ⟨j0, hj, hy0, hy1, hy2⟩ := info_parts home_info
  have hfew := h.wf.few
  have HPL := Lib.hid (twin_placed h at_ base ha hb)
  have HMY := Lib.hid (twin_may h at_ base hR h1 h8 (c := c) hp hn)
  have HR := Lib.hid hR
  have HP := Lib.hid hp
  have HD := Lib.hid h
  have HF := Lib.hid hf
  have HIN := Lib.hid h.in_
  clear h hf hR hp hn
  go_enter Tryz.func58, Tryz.ntmps58
  go_wp2_with fail
  refine HPL.out.mono ?_
  rintro e w1 ⟨rfl, hw⟩
  subst w1
  go_wp2_with fail
  refine HMY.out.mono ?_
  rintro e w1 ⟨rfl, hb1⟩
  have hs1 := hb1.size
  go_wp2_with fail
  go_loopw [10, 11, 12, 29] (fun v _ _ i wr => ∃ k : Nat, k ≤ l.length ∧ i = .int .i64 k ∧ wr.ownsRow w1.heap.size 132 2 v k (hcs ((Sp.areaOf l).take k)) ∧ Below w.heap.size w wr ∧ w1.heap.size ≤ wr.heap.size) (fun _ _ _ i _ => l.length - (intOf i).toNat)
  case atStart => exact ⟨0, by omega, rfl, by simpa [hcs] using World.ownsRow_nil _ _ _ _, hb1, Nat.le_refl _⟩
  case round =>
    obtain ⟨k, hk, rfl, hO, hbr, hsr⟩ := hrel
    by_cases hlt : k < l.length
    · obtain ⟨b, o, rfl, _, _, r0, r1⟩ := (Reads.below HR.out hbr).home hlt
      have hsn : hcs ((Sp.areaOf l).take (k + 1)) = hcs ((Sp.areaOf l).take k) ++ [.int .u32 (k : Nat), str l[k].2] := by
        rw [Sp.areaOf_succ l k hlt, hcs_app]; rfl
      have HSN := Lib.hid hsn
      have hmeas : k + 1 ≤ l.length := hlt
      clear hsn
      generalize l[k] = x at *
      obtain ⟨p, t⟩ := x
      dsimp only at *
      have HO := Lib.hid ((hO.alloc (.cells #[.int .u32 (p : Nat), str t] 132)).alloc (.cells #[.int .u32 (k : Nat), str t] 132))
      have hbr2 := (hbr.alloc hbr.size (.cells #[.int .u32 (p : Nat), str t] 132)).alloc (by have := hbr.size; simp; omega) (.cells #[.int .u32 (k : Nat), str t] 132)
      have hs9 := hbr.size
      have hnews : Hid (∀ j u, [Value.int .u32 (k : Nat), str t][j]? = some u → ((wr.alloc (.cells #[.int .u32 (p : Nat), str t] 132)).alloc (.cells #[.int .u32 (k : Nat), str t] 132)).cell? ((⟨wr.heap.size + 1, 0, none⟩ : Addr).add j) = some u) := fun j u hu => by
        rw [show (⟨wr.heap.size + 1, 0, none⟩ : Addr).add j = ⟨wr.heap.size + 1, j, none⟩ by unfold Addr.add; split <;> simp_all]
        have := (Blk.new (wr.alloc (.cells #[.int .u32 (p : Nat), str t] 132)) 132 #[.int .u32 (k : Nat), str t]).cell j
        rw [World.size_alloc] at this
        rw [this]
        simpa using hu
      clear hO
      go_wp2_with (at_builtin; refine wpList_append_own _ rfl _ _ 168 rfl w1.heap.size 132 j0 (.agg #[.int .u32 0, .string ⟨#[]⟩]) 2 24 Tryz.underlying168 hj hy0 hy1 hy2 rfl (by decide) _ _ _ rfl HO.out ⟨wr.heap.size + 1, 0, none⟩ 1 1 [.int .u32 (k : Nat), str t] rfl rfl hnews.out (fun x hx => by simp at hx; rcases hx with rfl | rfl <;> rfl) (by unfold maxLen; omega) (by omega) (by simp; omega) ?_)
      intro v' w6 hown hgrow hnil
      have hb6 := hbr2.grown hgrow hbr2.size (fun r e => Nat.le_trans hs1 (HO.out.lt r e).1)
      have hs6 : w1.heap.size ≤ w6.heap.size := by have := hgrow.size; simp at this; omega
      have HW := Lib.hid hown
      obtain ⟨g7, c7, rfl⟩ := own_form hown
      clear hnil hown hgrow
      go_wp2_with fail
      go_roundw
      case rel => exact ⟨k + 1, hmeas, by go_num, by rw [HSN.out]; exact HW.out, hb6, hs6⟩
      case measure => simp [intOf]; omega
    · obtain rfl : k = l.length := by omega
      rw [List.take_of_length_le (by rw [Sp.areaOf_length]; exact Nat.le_refl _)] at hO
      obtain ⟨ga, ca, rfl⟩ := own_form' hO h1
      have hra := own_reads hO
      rw [← Sp.areaOf_length l] at hra
      have hlz := Sp.areaOf_length l
      have hpa : ∀ x ∈ Sp.areaOf l, x.1 < 4294967296 ∧ x.2.length = 512 := by
        intro x hx
        obtain ⟨k, hk, rfl⟩ := List.mem_iff_getElem.1 hx
        have hk' : k < l.length := by omega
        have e := Sp.areaOf_get l k hk'
        rw [List.getElem?_eq_getElem hk, Option.some.injEq] at e
        rw [e]
        exact ⟨by show k < _; omega, (HP.out _ (List.getElem_mem hk')).2.1⟩
      have hh1 := twin_homes g (at_ + 1) hra (by omega) hpa (by omega) (c := ca)
      rw [show ((at_ + 1 : Nat) : Int) = (at_ : Int) + 1 by omega, hlz] at hh1
      have HH1 := Lib.hid hh1
      clear hh1 hra hpa hlz hO
      go_wp2_with fail
      refine HH1.out.mono ?_
      rintro e wa ⟨v1, fs1, rfl, hO1, hA1, hba⟩
      obtain ⟨g1, c1, rfl⟩ := own_form' hO1 (by omega)
      have hbwa : Below w.heap.size w wa := hbr.trans (hba.mono hbr.size)
      have hsa := hba.size
      have hsw := hbr.size
      have HO1 := Lib.hid hO1
      have HA1 := Lib.hid hA1
      clear hO1 hA1
      go_wp2_with fail
      refine (twin_mark (Reads.below HR.out hbwa) h8 (fun x hx => (HP.out x hx).1)).mono ?_
      rintro e wb ⟨rfl, hbb⟩
      have hbwb : Below w.heap.size w wb := hbwa.trans (hbb.mono hbwa.size)
      have hsb := hbb.size
      have HO2 := Lib.hid (own_below HO1.out hbb)
      have HA2 := Lib.hid (HA1.out.below hbb)
      clear HO1 HA1
      go_wp2_with fail
      refine (twin_marks g at_ (Sp.markBs l)).mono ?_
      rintro e wc ⟨b2, c2, fs2, rfl, hb2, hB2, hl2, hone2, hA2, hbc⟩
      have hbwc : Below w.heap.size w wc := hbwb.trans (hbc.mono hbwb.size)
      have hsc := hbc.size
      have HO3 := Lib.hid (own_below HO2.out hbc)
      have HA3 := Lib.hid ((HA2.out.below hbc).mono (G' := fun b => w.heap.size ≤ b) (fun b (hb : wr.heap.size ≤ b) => Nat.le_trans hsw hb))
      have HA4 := Lib.hid (hA2.mono (G' := fun b => w.heap.size ≤ b) (fun b (hb : wb.heap.size ≤ b) => by show w.heap.size ≤ b; omega))
      have hn2 : Hid (∀ j u, fs2[j]? = some u → wc.cell? ((⟨b2, 0, none⟩ : Addr).add j) = some u) := fun j u hu => by
        rw [add_lit, hB2.cell j]; simpa using hu
      have ho2 := Lib.hid hone2
      have hl2' := Lib.hid hl2
      clear HO2 HA2 hA2 hone2 hB2 hl2
      go_wp2_with (at_builtin; refine wpList_append_own _ rfl _ _ 171 rfl wr.heap.size 214 i0 .nilFunc 1 8 Tryz.underlying171 hi hz0 hz1 hz2 rfl (by decide) _ _ _ rfl HO3.out ⟨b2, 0, none⟩ 2 c2 fs2 rfl hl2'.out hn2.out ho2.out (by unfold maxLen; omega) (by omega) (by omega) ?_)
      intro v4 wd hown4 hgrow4 _
      have HA5 := Lib.hid ((HA3.out.grown hgrow4 (own_blk HO3.out)).app (HA4.out.grown hgrow4 (own_blk HO3.out)))
      have hbwd : Below w.heap.size w wd := hbwc.grown hgrow4 hbwc.size (fun r e => Nat.le_trans hsw (HO3.out.lt r e).1)
      have hsd := hgrow4.size
      have HO4 := Lib.hid hown4
      obtain ⟨g4, c4, rfl⟩ := own_form' hown4 (by omega)
      clear hown4 hgrow4 HA3 HA4 HO3 hn2 ho2 hl2'
      have HH2 := Lib.hid (twin_homes g base (Reads.below HR.out hbwd) (by omega) (fun x hx => ⟨(HP.out x hx).1, (HP.out x hx).2.1⟩) (by omega) (c := c))
      go_wp2_with fail
      refine HH2.out.mono ?_
      rintro e we ⟨v5, fs5, rfl, hO5, hA5, hbe⟩
      obtain ⟨g5, c5, rfl⟩ := own_form' hO5 (by omega)
      have hbwe : Below w.heap.size w we := hbwd.trans (hbe.mono hbwd.size)
      have hse := hbe.size
      have HO6 := Lib.hid (own_below HO4.out hbe)
      have HA6 := Lib.hid (HA5.out.below hbe)
      have HA7 := Lib.hid (hA5.mono (G' := fun b => w.heap.size ≤ b) (fun b (hb : wd.heap.size ≤ b) => by show w.heap.size ≤ b; omega))
      have hl5 := Lib.hid hO5.1
      have hn5 : Hid (∀ j u, fs5[j]? = some u → we.cell? ((⟨g5, 0, none⟩ : Addr).add j) = some u) := hO5.cells (g := g5) rfl
      have ho5 := Lib.hid hA5.one_
      clear HO4 HA5 hO5 hA5 HH2
      go_wp2_with (at_builtin; refine wpList_append_own _ rfl _ _ 171 rfl wr.heap.size 214 i0 .nilFunc 1 8 Tryz.underlying171 hi hz0 hz1 hz2 rfl (by decide) _ _ _ rfl HO6.out ⟨g5, 0, none⟩ (l.length * 4 + 1) c5 fs5 rfl hl5.out hn5.out ho5.out (by unfold maxLen; omega) (by omega) (by omega) ?_)
      intro v6 wf hown6 hgrow6 _
      have HA8 := Lib.hid ((HA6.out.grown hgrow6 (own_blk HO6.out)).app (HA7.out.grown hgrow6 (own_blk HO6.out)))
      have hbwf : Below w.heap.size w wf := hbwe.grown hgrow6 hbwe.size (fun r e => Nat.le_trans hsw (HO6.out.lt r e).1)
      have hsf := hgrow6.size
      have HO8 := Lib.hid hown6
      obtain ⟨g6, c6, rfl⟩ := own_form' hown6 (by omega)
      clear hown6 hgrow6 HA6 HA7 HO6 hn5 ho5 hl5
      go_wp2_with fail
      refine (twin_clear _).mono ?_
      rintro e wg ⟨rfl, hbg⟩
      have hbwg : Below w.heap.size w wg := hbwf.trans (hbg.mono hbwf.size)
      have hsg := hbg.size
      have HO9 := Lib.hid (own_below HO8.out hbg)
      have HA9 := Lib.hid (HA8.out.below hbg)
      clear HO8 HA8
      go_wp2_with fail
      refine (twin_marks g at_ (Sp.zeros 128)).mono ?_
      rintro e wh ⟨b7, c7, fs7, rfl, hb7, hB7, hl7, hone7, hA7, hbh⟩
      have hbwh : Below w.heap.size w wh := hbwg.trans (hbh.mono hbwg.size)
      have hsh := hbh.size
      have HO10 := Lib.hid (own_below HO9.out hbh)
      have HA10 := Lib.hid (HA9.out.below hbh)
      have HA11 := Lib.hid (hA7.mono (G' := fun b => w.heap.size ≤ b) (fun b (hb : wg.heap.size ≤ b) => by show w.heap.size ≤ b; omega))
      have hn7 : Hid (∀ j u, fs7[j]? = some u → wh.cell? ((⟨b7, 0, none⟩ : Addr).add j) = some u) := fun j u hu => by
        rw [add_lit, hB7.cell j]; simpa using hu
      have ho7 := Lib.hid hone7
      have hl7' := Lib.hid hl7
      clear HO9 HA9 hA7 hone7 hB7 hl7
      go_wp2_with (at_builtin; refine wpList_append_own _ rfl _ _ 171 rfl wr.heap.size 214 i0 .nilFunc 1 8 Tryz.underlying171 hi hz0 hz1 hz2 rfl (by decide) _ _ _ rfl HO10.out ⟨b7, 0, none⟩ 2 c7 fs7 rfl hl7'.out hn7.out ho7.out (by unfold maxLen; omega) (by omega) (by omega) ?_)
      intro v8 wi hown8 hgrow8 _
      have hA12 := ((HA10.out.grown hgrow8 (own_blk HO10.out)).app (HA11.out.grown hgrow8 (own_blk HO10.out))).lt
      have hbwi : Below w.heap.size w wi := hbwh.grown hgrow8 hbwh.size (fun r e => Nat.le_trans hsw (HO10.out.lt r e).1)
      have hEQ : ((Sp.homesActs (at_ + 1) (Sp.areaOf l) ++ [.sync]) ++ [.wr at_ (Sp.markBs l), .sync]) ++ (Sp.homesActs base l ++ [.sync]) ++ [.wr at_ (Sp.zeros 128), .sync] = Sp.twinActs at_ base l := rfl
      rw [hEQ] at hA12
      simp only [List.append_assoc] at hA12 hown8
      clear hEQ
      have hlen8 := hown8.1
      obtain ⟨g8, c8, rfl⟩ := own_form' hown8 (by omega)
      have hr8 := (own_reads hown8).lt.mono (G' := fun b => w.heap.size ≤ b ∧ b < wi.heap.size) (fun b (hb : wr.heap.size ≤ b ∧ b < wi.heap.size) => ⟨Nat.le_trans hsw hb.1, hb.2⟩)
      have hD8 : IsDk F wi g d := HD.out.keep (fun b hb => hbwi.block b (HIN.out b hb))
      rw [Nat.mul_one] at hlen8
      rw [← hlen8] at hr8
      have hst := twin_steps hD8 HF.out (c := c8) hr8 hA12 (fun b hb => ⟨hb.2, fun hF => by have := HIN.out b hF; have := hb.1; omega⟩) (Sp.twinActs_ok h8 (fun x hx => (HP.out x hx).2) ha) (by
        have := Sp.twinActs_length at_ base l
        omega)
      rw [hlen8] at hst
      have hT8 : Turns F F w wi := ⟨hbwi.os, hbwi.tape, hbwi.output, hbwi.size, fun b hb _ => hbwi.block b hb, fun _ hb => .inl hb⟩
      have HST := Lib.hid hst
      have HT8 := Lib.hid hT8
      clear hst hr8 hD8 hA12 hown8 hgrow8 hT8 hlen8
      go_wp2_with fail
      refine HST.out.mono ?_
      rintro e wj ⟨F', rfl, hDj, htj⟩
      have HDJ := Lib.hid hDj
      have HTJ := Lib.hid (HT8.out.trans htj)
      clear hDj htj
      go_wp2_with fail
      go_ret
      exact ⟨F', rfl, HDJ.out, HTJ.out⟩
end Go.Proofs.YtafopojibpifoaaGreat

/- The walks of package log: may, New. -/
namespace Go.Proofs.YtafopojibpifoaaGreat
open Go.RowKit

set_option maxRecDepth 100000 in
set_option maxHeartbeats 2000000 in
theorem log_may {F : Foot} {w : World} {g : Nat} {d : Sp.Dk} (h : IsDk F w g d) (at_ n life : Nat) (h1 : 4 ≤ n) (h2 : n ≤ 4096) (h3 : at_ + n ≤ d.sure.length) (h4 : 1 ≤ life) :
    Calls Tryz.prog 87 #[ptr g, .int .i64 at_, .int .i64 n, .int .u64 life] w fun e w' => e = .returned (.int .i64 0) ∧ w' = w := by
  have hfew := h.wf.few
  have HL := Lib.hid (disk_len h)
  have d1 : decide ((at_ : Int) < 0) = false := by simp
  have d2 : decide ((n : Int) < 4) = false := by rw [decide_eq_false_iff_not]; omega
  have d3 : decide ((4096 : Int) < n) = false := by rw [decide_eq_false_iff_not]; omega
  have d4 : decide ((d.sure.length : Int) - n < at_) = false := by rw [decide_eq_false_iff_not]; omega
  have d5 : ((life : Int) == 0) = false := by simp; omega
  clear h
  go_enter Tryz.func87, Tryz.ntmps87
  go_wp2_with fail
  refine HL.out.mono ?_
  rintro e w1 ⟨rfl, hw⟩
  subst w1
  go_wp2_with fail
  go_ret
  exact ⟨rfl, rfl⟩

/-- The struct of a log. -/
abbrev lgCells (g at_ n life : Nat) (bv sv : Value) (first next forced reserved : Nat) : Array Value :=
  #[ptr g, .int .i64 at_, .int .i64 n, .int .u64 life, bv, sv, .int .u64 first, .int .u64 next, .int .u64 forced, .int .i64 reserved]

set_option maxRecDepth 100000 in
set_option maxHeartbeats 2000000 in
theorem log_new {F : Foot} {w : World} {g : Nat} {d : Sp.Dk} (h : IsDk F w g d) (at_ n life : Nat) (h1 : 4 ≤ n) (h2 : n ≤ 4096) (h3 : at_ + n ≤ d.sure.length) (h4 : 1 ≤ life) :
    Calls Tryz.prog 59 #[ptr g, .int .i64 at_, .int .i64 n, .int .u64 life] w fun e w' => e = .returned (.tuple #[ptr w.heap.size, .int .i64 0]) ∧
      w' = w.alloc (.cells (lgCells g at_ n life (.slice none 0 0) (.slice none 0 0) 110 110 110 0) 179) := by
  have HL := Lib.hid (log_may h at_ n life h1 h2 h3 h4)
  clear h
  go_enter Tryz.func59, Tryz.ntmps59
  go_wp2_with fail
  refine HL.out.mono ?_
  rintro e w1 ⟨rfl, hw⟩
  subst w1
  go_wp2_with fail
  go_ret2
  exact ⟨rfl, rfl⟩
end Go.Proofs.YtafopojibpifoaaGreat

/- Maps from uint32 to int, as functions. No program is named here. -/
namespace Go.Proofs.YtafopojibpifoaaGreat
open Go.RowKit Go.Maps

/-- Block b is a map of m entries that is this function. -/
def UMap (P : Program) (k e : TypeId) (w : World) (b m : Nat) (lk : Nat → Option Nat) : Prop :=
  ∃ D : DataW Unit, w.ownsMap P k (plainElem P e) b m D ∧ size D = m ∧
    ∀ p, (∀ i, lk p = some i → has D (uKey p) = true ∧ ∀ z, D.atKey (uKey p) z = .lit (.int .i64 (i : Int))) ∧ (lk p = none → has D (uKey p) = false)

section
variable {P : Program} {k e t : TypeId} {w w' : World} {b m : Nat} {lk : Nat → Option Nat}

theorem owns_norm {R : Value → Option (DataW Unit × List MemPlace)} {n : Nat} {D : DataW Unit} (h : w.ownsMap P k R b n D) : w.ownsMap P k R b (size D) D := by
  obtain ⟨es, clock, hb, F, _, rfl⟩ := h
  refine ⟨es, clock, hb, F, ?_, rfl⟩
  simp [Maps.size, length_sorted]

theorem UMap.lt (h : UMap P k e w b m lk) : b < w.heap.size := by obtain ⟨D, h1, _⟩ := h; exact World.ownsMap.lt h1
theorem UMap.keep (h : UMap P k e w b m lk) (hk : w'.heap[b]? = w.heap[b]?) : UMap P k e w' b m lk := by
  obtain ⟨D, ⟨es, clock, h1, rest⟩, h2⟩ := h
  exact ⟨D, ⟨es, clock, hk.trans h1, rest⟩, h2⟩
theorem UMap.kept {row : Option Nat} (h : UMap P k e w b m lk) (hg : w.grownBy w' row) (hne : some b ≠ row) : UMap P k e w' b m lk := h.keep (hg.block b h.lt hne)
theorem UMap.alloc (h : UMap P k e w b m lk) (o : Obj) : UMap P k e (w.alloc o) b m lk := h.keep (Below.heap_alloc w o b h.lt)
theorem UMap.drew (h : UMap P k e w b m lk) : UMap P k e w.drew b m lk := h.keep rfl
theorem UMap.far (h : UMap P k e w b m lk) {p : Addr} (hp : b ≠ p.block) (u : Value) : UMap P k e (w.setCell p u) b m lk := h.keep (Below.heap_setCell w p u b hp)
theorem UMap.below {B : Nat} (h : UMap P k e w b m lk) (hb : Below B w w') (hlt : b < B) : UMap P k e w' b m lk := h.keep (hb.block b hlt)
theorem UMap.turns {F F' : Foot} (h : UMap P k e w b m lk) (ht : Turns F F' w w') (hn : ¬ F b) : UMap P k e w' b m lk := h.keep (ht.block b h.lt hn)
theorem UMap.congr {lk' : Nat → Option Nat} (h : UMap P k e w b m lk) (he : ∀ p, lk' p = lk p) : UMap P k e w b m lk' := by
  have : lk' = lk := funext he
  rw [this]; exact h
theorem UMap.made (w : World) : UMap P k e (w.alloc (.map #[] 0)) w.heap.size 0 (fun _ => none) :=
  ⟨.map [], World.ownsMap_made w P k _, rfl, fun p => ⟨fun i h => by simp at h, fun _ => rfl⟩⟩

theorem int_of_lit (he : P.underlying e = some (.int .i64)) {v : Value} {i : Int} {ps : List MemPlace} (h : plainElem (H := Unit) P e v = some (.lit (.int .i64 i), ps)) : v = .int .i64 i := by
  obtain ⟨a, rfl, hz, _⟩ := plainElem_int_inv he h
  simp only [Prod.mk.injEq, DataW.lit.injEq, Lit.int.injEq, true_and] at hz
  rw [hz.1]

theorem UMap.look (h : UMap P k e w b m lk) (hk : P.underlying k = some (.int .u32)) (he : P.underlying e = some (.int .i64)) (ht : P.underlying t = some (.map k e)) (hz : (zeroValue e).run P w = .ok (.int .i64 0) w) {p i : Nat} (hp : p < 4294967296) (hi : lk p = some i) :
    (Instr.lookup t (.map (some b)) (.int .u32 (p : Int)) false).run P w = .ok (.int .i64 (i : Int)) w := by
  obtain ⟨D, h1, _, h3⟩ := h
  obtain ⟨v, ps, hrun, hv⟩ := World.ownsMap.lookup h1 (int_keyed hk) ht hz (plainElem_int he (by decide)) (keyOf_int_mk hk (uKey_wf hp))
  rw [((h3 p).1 i hi).2] at hv
  rw [hrun, int_of_lit he hv]

theorem UMap.look_ok (h : UMap P k e w b m lk) (hk : P.underlying k = some (.int .u32)) (he : P.underlying e = some (.int .i64)) (ht : P.underlying t = some (.map k e)) (hz : (zeroValue e).run P w = .ok (.int .i64 0) w) {p : Nat} (hp : p < 4294967296) :
    (Instr.lookup t (.map (some b)) (.int .u32 (p : Int)) true).run P w = .ok (.tuple #[.int .i64 (((lk p).getD 0 : Nat) : Int), .bool (lk p).isSome]) w := by
  obtain ⟨D, h1, _, h3⟩ := h
  obtain ⟨v, ps, hrun, hv⟩ := World.ownsMap.look_ok h1 (int_keyed hk) ht hz (plainElem_int he (by decide)) (keyOf_int_mk hk (uKey_wf hp))
  cases hl : lk p with
  | none =>
    rw [(h3 p).2 hl] at hrun
    rw [atKey_of_not_has ((h3 p).2 hl)] at hv
    rw [hrun, int_of_lit he hv]; rfl
  | some i =>
    rw [((h3 p).1 i hl).1] at hrun
    rw [((h3 p).1 i hl).2] at hv
    rw [hrun, int_of_lit he hv]; rfl

def lkPut (lk : Nat → Option Nat) (p i : Nat) : Nat → Option Nat := fun q => if q = p then some i else lk q
def lkDel (lk : Nat → Option Nat) (p : Nat) : Nat → Option Nat := fun q => if q = p then none else lk q

theorem UMap.put (h : UMap P k e w b m lk) (hk : P.underlying k = some (.int .u32)) (he : P.underlying e = some (.int .i64)) (ht : P.underlying t = some (.map k e)) (hm : m < 1000000000) {p i : Nat} (hp : p < 4294967296) (hi : i < 9223372036854775808) (hn : lk p = none) :
    ∃ w', (Instr.mapUpdate t (.map (some b)) (.int .u32 (p : Int)) (.int .i64 (i : Int))).run P w = .ok () w' ∧ UMap P k e w' b (m + 1) (lkPut lk p i) ∧ w.grownBy w' (some b) := by
  obtain ⟨D, h1, h2, h3⟩ := h
  have hwf : (Lit.int .i64 (i : Int)).wf = true := by
    have e1 : IntKind.i64.min = -9223372036854775808 := rfl
    have e2 : IntKind.i64.max = 9223372036854775807 := rfl
    simp [Lit.wf, e1, e2]; omega
  obtain ⟨w', r1, r2, r3⟩ := World.ownsMap.update h1 (int_keyed hk) ht (by unfold maxLen; omega) (keyOf_int_mk hk (uKey_wf hp)) (plainElem_int he hwf)
  have hT := World.ownsMap.tidy h1 (int_keyed hk)
  refine ⟨w', r1, ⟨_, r2, ?_, fun q => ?_⟩, r3⟩
  · rw [size_put hT, (h3 p).2 hn, h2]; rfl
  · by_cases hq : q = p
    · subst hq
      simp only [lkPut, if_pos]
      refine ⟨fun j hj => ?_, fun hc => by cases hc⟩
      injection hj with hj
      subst hj
      exact ⟨has_put_same hT.isMap (uKey_lit q) _, fun z => atKey_put_same hT.isMap (uKey_lit q) _ z⟩
    · have hne : uKey q ≠ uKey p := fun e => hq (uKey_inj e)
      simp only [lkPut, if_neg hq]
      refine ⟨fun j hj => ?_, fun hc => ?_⟩
      · rw [has_put_other hne]
        exact ⟨((h3 q).1 j hj).1, fun z => by rw [atKey_put_other hne]; exact ((h3 q).1 j hj).2 z⟩
      · rw [has_put_other hne]; exact (h3 q).2 hc

theorem UMap.del (h : UMap P k e w b m lk) (hk : P.underlying k = some (.int .u32)) (ht : P.underlying t = some (.map k e)) {p i : Nat} (hp : p < 4294967296) (hi : lk p = some i) (ty : TypeId) :
    ∃ w', (Builtin.delete_ #[t, k] ty #[.map (some b), .int .u32 (p : Int)]).run P w = .ok (.tuple #[]) w' ∧ UMap P k e w' b (m - 1) (lkDel lk p) ∧ w.grownBy w' (some b) := by
  obtain ⟨D, h1, h2, h3⟩ := h
  obtain ⟨w', r1, r2, r3⟩ := World.ownsMap.drop h1 (int_keyed hk) ht (keyOf_int_mk hk (uKey_wf hp)) ty
  have hT := World.ownsMap.tidy h1 (int_keyed hk)
  have hs := size_del (D := D) (k := uKey p) hT
  rw [((h3 p).1 i hi).1, if_pos rfl, h2] at hs
  have r4 := owns_norm r2
  have hs' : size (D.del (uKey p)) = m - 1 := by omega
  rw [hs'] at r4
  refine ⟨w', r1, ⟨_, r4, hs', fun q => ?_⟩, r3.grown⟩
  by_cases hq : q = p
  · subst hq
    simp only [lkDel, if_pos]
    exact ⟨fun j hj => (by cases hj), fun _ => has_del_same⟩
  · have hne : uKey q ≠ uKey p := fun e => hq (uKey_inj e)
    simp only [lkDel, if_neg hq]
    refine ⟨fun j hj => ?_, fun hc => ?_⟩
    · rw [has_del_other hne]
      exact ⟨((h3 q).1 j hj).1, fun z => by rw [atKey_del_other hne]; exact ((h3 q).1 j hj).2 z⟩
    · rw [has_del_other hne]; exact (h3 q).2 hc
end
end Go.Proofs.YtafopojibpifoaaGreat

/- Channels in one goroutine, beside the walk: a code's contract where it communicates (in a frame that is no early one). No program is named here. -/
namespace Go.Proofs.YtafopojibpifoaaGreat
open Go.RowKit Go.Conc

def wpN (P : Program) (c : Code) (Q : Exit → Act → World → Prop) (a : Act) (w : World) : Prop :=
  ∀ (b : Frame) (k : List Item) (cs : List Frame), b.kind ≠ .early →
    ∃ e a' w', Q e a' w' ∧ Arrives P (lone (b.at a (.code c :: k)) cs w) b k cs e a' w'

section
variable {P : Program} {Q : Exit → Act → World → Prop} {a : Act} {w : World}

theorem wpN_of_wp {c : Code} (h : c.wp P Q a w) : wpN P c Q a w := fun b k cs _ => h b k cs

theorem wpN_mono {c : Code} {Q' : Exit → Act → World → Prop} (h : wpN P c Q a w) (hq : ∀ e a w, Q e a w → Q' e a w) : wpN P c Q' a w :=
  fun b k cs hb => let ⟨e, a', w', q, r⟩ := h b k cs hb; ⟨e, a', w', hq _ _ _ q, r⟩

theorem wpN_seq {x y : Code} (h : wpN P x (Exit.then (wpN P y Q) Q) a w) : wpN P (Code.seq x y) Q a w := by
  intro b k cs hb
  obtain ⟨e, a₁, w₁, hq, harr⟩ := h b (.code y :: k) cs hb
  cases e with
  | normal =>
    obtain ⟨e₂, a₂, w₂, hq₂, harr₂⟩ := hq b k cs hb
    exact ⟨e₂, a₂, w₂, hq₂, .of_steps (.head step_seq harr) harr₂⟩
  | exit id => exact ⟨_, a₁, w₁, hq, .of_steps (.one step_seq) (.pass (x := .code y) rfl (fun _ _ => .inl (by simp)) harr)⟩
  | goto l => exact ⟨_, a₁, w₁, hq, .of_steps (.one step_seq) (.pass (x := .code y) rfl (fun _ _ => .inl (by simp)) harr)⟩
  | ret => exact ⟨_, a₁, w₁, hq, .of_steps (.one step_seq) (.pass (x := .code y) rfl (fun _ _ => .inl (by simp)) harr)⟩
  | panic ch => exact ⟨_, a₁, w₁, hq, .of_steps (.one step_seq) (.pass (x := .code y) rfl (fun _ _ => .inl (by simp)) harr)⟩
  | outgrown => exact ⟨_, a₁, w₁, hq, .of_steps (.one step_seq) (.pass (x := .code y) rfl (fun _ _ => .inl (by simp)) harr)⟩

/-- The first part by the walk. -/
theorem wpN_seq_k {x y : Code} (h : ∀ K : Act → World → Prop, (∀ a w, wpN P y Q a w → K a w) → x.wp P (Exit.then K Q) a w) : wpN P (Code.seq x y) Q a w :=
  wpN_seq (wpN_of_wp (h _ fun _ _ h => h))

theorem wpN_cond {c : Operand} {x y : Code} {t : Bool} (hc : a.eval c = .bool t) (h : wpN P (if t then x else y) Q a w) : wpN P (Code.cond c x y) Q a w :=
  fun b k cs hb => let ⟨e, a', w', q, r⟩ := h b k cs hb; ⟨e, a', w', q, .of_steps (.one (step_cond hc)) r⟩

theorem wpN_block {id : Nat} {c : Code} (h : wpN P c (Exit.inBlock id Q) a w) : wpN P (Code.block id c) Q a w := by
  intro b k cs hb
  obtain ⟨e, a₁, w₁, hq, harr⟩ := h b (.inBlock id :: k) cs hb
  cases e with
  | normal => exact ⟨.normal, a₁, w₁, hq, .head step_block (Steps.trans harr (.one step_inBlock))⟩
  | exit id' =>
    by_cases hid : id' = id
    · simp only [Exit.inBlock, hid, if_true] at hq
      exact ⟨.normal, a₁, w₁, hq, .head step_block (harr k (by simp [exitTo, hid]))⟩
    · simp only [Exit.inBlock, hid, if_false] at hq
      refine ⟨.exit id', a₁, w₁, hq, fun k' hk => .head step_block (harr k' ?_)⟩
      have : (id == id') = false := by simp; exact fun h => hid h.symm
      simp [exitTo, this, hk]
  | goto l => exact ⟨_, a₁, w₁, hq, fun k' hk => .head step_block (harr k' (by simp [gotoIn, hk]))⟩
  | ret => exact ⟨_, a₁, w₁, hq, .of_steps (.one step_block) harr⟩
  | panic ch => exact ⟨_, a₁, w₁, hq, .of_steps (.one step_block) harr⟩
  | outgrown => exact ⟨_, a₁, w₁, hq, .of_steps (b := b) (k := k) (cs := cs) (e := .outgrown) (.one step_block) harr⟩

theorem wpN_loop {c : Code} (I : Act → World → Prop) (μ : Act → World → Nat) (h₀ : I a w)
    (round : ∀ a w, I a w → wpN P c (Exit.then (fun a' w' => I a' w' ∧ μ a' w' < μ a w) Q) a w) : wpN P (Code.loop c) Q a w := by
  intro b k cs hb
  have key : ∀ n a w, μ a w = n → I a w →
      ∃ e a' w', Q e a' w' ∧ Arrives P (lone (b.at a (.code c :: .inLoop c :: k)) cs w) b k cs e a' w' := by
    intro n
    induction n using Nat.strongRecOn with
    | _ n ih =>
      intro a w hn hI
      obtain ⟨e, a₁, w₁, hq, harr⟩ := round a w hI b (.inLoop c :: k) cs hb
      cases e with
      | normal =>
        obtain ⟨hI₁, hlt⟩ := hq
        obtain ⟨e₂, a₂, w₂, hq₂, harr₂⟩ := ih (μ a₁ w₁) (hn ▸ hlt) a₁ w₁ rfl hI₁
        exact ⟨e₂, a₂, w₂, hq₂, .of_steps (Steps.trans harr (.one step_inLoop)) harr₂⟩
      | exit id => exact ⟨_, a₁, w₁, hq, .pass (x := .inLoop c) rfl (fun _ _ => .inl (by simp)) harr⟩
      | goto l => exact ⟨_, a₁, w₁, hq, .pass (x := .inLoop c) rfl (fun _ _ => .inl (by simp)) harr⟩
      | ret => exact ⟨_, a₁, w₁, hq, .pass (x := .inLoop c) rfl (fun _ _ => .inl (by simp)) harr⟩
      | panic ch => exact ⟨_, a₁, w₁, hq, .pass (x := .inLoop c) rfl (fun _ _ => .inl (by simp)) harr⟩
      | outgrown => exact ⟨_, a₁, w₁, hq, .pass (x := .inLoop c) rfl (fun _ _ => .inl (by simp)) harr⟩
  obtain ⟨e, a', w', hq, harr⟩ := key _ a w rfl h₀
  exact ⟨e, a', w', hq, .of_steps (.one step_loop) harr⟩

theorem calls_of_wpN {f : FuncId} {fn : Func} {c : Code} {args : Array Value} {w : World} {R : Ending → World → Prop}
    (hf : P.funcs[f]? = some fn) (hb : fn.body = some c)
    (h : wpN P c (bodyPost P fn R) { tmps := args ++ Array.replicate (fn.ntmps - args.size) undef, defers := [] } w) :
    Calls P f args w R := by
  intro cs
  let b : Frame := { (default : Frame) with fn := f, kind := .normal }
  have henter : Frame.enter P f args .normal =
      b.at { tmps := args ++ Array.replicate (fn.ntmps - args.size) undef, defers := [] } [.code c] := by
    simp [Frame.enter, Frame.at, hf, hb, b]
  obtain ⟨e, a', w', hq, harr⟩ := h b [] cs (by simp [b])
  rw [← henter] at harr
  cases e with
  | normal =>
    obtain ⟨hd, v, hr, hR⟩ := hq
    exact ⟨.returned v, w', _, hR, Steps.trans harr (.one step_end), rfl, rfl, hd, rfl, fn, hf, hr⟩
  | ret =>
    obtain ⟨hd, v, hr, hR⟩ := hq
    obtain ⟨todo, hs⟩ := harr
    exact ⟨.returned v, w', _, hR, hs, rfl, rfl, hd, rfl, fn, hf, hr⟩
  | panic chain =>
    obtain ⟨hd, hR⟩ := hq
    obtain ⟨todo, hs⟩ := harr
    exact ⟨.panicked chain, w', _, hR, hs, rfl, rfl, hd, fn, hf⟩
  | exit id => exact hq.elim
  | goto l => exact hq.elim
  | outgrown => exact ⟨.outgrown, w', b, hq, harr.resolve_left (by simp [b]), rfl, trivial⟩

/-! ### A region that communicates -/
def wpT (P : Program) (ops : Array Oper) (Q : Exit → Act → World → Prop) (rest : List Nat) (a : Act) (w : World) : Prop :=
  ∀ (b : Frame) (k : List Item) (cs : List Frame), b.kind ≠ .early → ∃ e a' w', Q e a' w' ∧ Arrives P (lone (b.at a (.inRegion ops rest :: k)) cs w) b k cs e a' w'

variable {ops : Array Oper} {rest : List Nat}
theorem wpN_region {id : Nat} (h : wpT P ops Q (List.range ops.size) a w) : wpN P (Code.region id ops false) Q a w :=
  fun b k cs hb => let ⟨e, a', w', q, r⟩ := h b k cs hb; ⟨e, a', w', q, .of_steps (.one step_region) r⟩

theorem T_done (h : Q .normal a w) : wpT P ops Q [] a w := fun _ _ _ _ => ⟨.normal, a, w, h, .one step_region_end⟩

theorem T_value (i : Nat) (t : Tmp) {v : Value} {w' : World} {o : Oper} (hi : ops[i]? = some o) (hd : o.dst = some t) (hw : Region.wanted o (yielded ops a.tmps) = true) (hy : (execOp a.eval o).run P w = .ok (.value v) w')
    (h : wpT P ops Q rest { tmps := a.tmps.setIfInBounds t v, defers := a.defers } w') : wpT P ops Q (i :: rest) a w := by
  intro b k cs hb
  obtain ⟨e, a', w'', hq, harr⟩ := h b k cs hb
  have hg := stepG_op (P := P) (b := b) (k := k) (cs := cs) (w := w) (rest := rest) hi hw
  have hfin : (b.at a (.inRegion ops (i :: rest) :: k)).finish v = b.at { tmps := a.tmps.setIfInBounds t v, defers := a.defers } (.inRegion ops rest :: k) := by
    rw [Frame.finish_at, hi]
    simp only [Option.bind_some, hd, Act.put]
  refine ⟨e, a', w'', hq, .of_steps (.one (step_lone_go ?_)) harr⟩
  rw [hg, ← hfin]; simp [stepG.apply, hy]

theorem T_send (i : Nat) {c cap s r : Nat} {buf : Array Value} {v z : Value} {tm : Bool} {w' : World} {o : Oper} (hi : ops[i]? = some o) (hd : o.dst = none) (hw : Region.wanted o (yielded ops a.tmps) = true)
    (hy : (execOp a.eval o).run P w = .ok (.comm #[scase c v z] true .send) w') (hc : w'.heap[c]? = some (.chan cap buf false s r tm)) (hroom : buf.size < cap)
    (h : wpT P ops Q rest a (w'.setChan c cap (buf.push v) false (s + 1) r tm)) : wpT P ops Q (i :: rest) a w := by
  intro b k cs hb
  obtain ⟨e, a', w'', hq, harr⟩ := h b k cs hb
  have hs := step_lone_send_room (stepG_comm (P := P) (b := b) (k := k) (cs := cs) (rest := rest) (main := true) hi hw hb hy) hc hroom
  rw [Frame.finish_at, hi, Option.bind_some, hd] at hs
  exact ⟨e, a', w'', hq, .of_steps (.one hs) harr⟩

theorem T_recv (i : Nat) (t : Tmp) {c cap s r : Nat} {buf : Array Value} {z : Value} {closed tm : Bool} {w' : World} {o : Oper} (hi : ops[i]? = some o) (hd : o.dst = some t) (hw : Region.wanted o (yielded ops a.tmps) = true)
    (hy : (execOp a.eval o).run P w = .ok (.comm #[rcase c z] true (.recv false)) w') (hc : w'.heap[c]? = some (.chan cap buf closed s r tm)) (hsome : 0 < buf.size)
    (h : wpT P ops Q rest { tmps := a.tmps.setIfInBounds t (buf.getD 0 undef), defers := a.defers } (w'.setChan c cap (buf.extract 1 buf.size) closed s (r + 1) tm)) : wpT P ops Q (i :: rest) a w := by
  intro b k cs hb
  obtain ⟨e, a', w'', hq, harr⟩ := h b k cs hb
  have hs := step_lone_recv_buf false (stepG_comm (P := P) (b := b) (k := k) (cs := cs) (rest := rest) (main := true) hi hw hb hy) hc hsome
  rw [Frame.finish_at, hi, Option.bind_some, hd] at hs
  exact ⟨e, a', w'', hq, .of_steps (.one hs) harr⟩

theorem T_select_recv (i : Nat) (t : Tmp) {c cap s r : Nat} {buf : Array Value} {z : Value} {closed tm : Bool} {w' : World} {o : Oper} (hi : ops[i]? = some o) (hd : o.dst = some t) (hw : Region.wanted o (yielded ops a.tmps) = true)
    (hy : (execOp a.eval o).run P w = .ok (.comm #[rcase c z] false .select) w') (hc : w'.heap[c]? = some (.chan cap buf closed s r tm)) (hsome : 0 < buf.size)
    (h : wpT P ops Q rest { tmps := a.tmps.setIfInBounds t (.tuple #[goInt 0, .bool true, buf.getD 0 undef]), defers := a.defers } (w'.setChan c cap (buf.extract 1 buf.size) closed s (r + 1) tm)) : wpT P ops Q (i :: rest) a w := by
  intro b k cs hb
  obtain ⟨e, a', w'', hq, harr⟩ := h b k cs hb
  have hs := step_lone_select_recv_buf (stepG_comm (P := P) (b := b) (k := k) (cs := cs) (rest := rest) (main := true) hi hw hb hy) hc hsome
  rw [Frame.finish_at, hi, Option.bind_some, hd] at hs
  exact ⟨e, a', w'', hq, .of_steps (.one hs) harr⟩

theorem T_select_default (i : Nat) (t : Tmp) {c cap s r : Nat} {z : Value} {tm : Bool} {w' : World} {o : Oper} (hi : ops[i]? = some o) (hd : o.dst = some t) (hw : Region.wanted o (yielded ops a.tmps) = true)
    (hy : (execOp a.eval o).run P w = .ok (.comm #[rcase c z] false .select) w') (hc : w'.heap[c]? = some (.chan cap #[] false s r tm))
    (h : wpT P ops Q rest { tmps := a.tmps.setIfInBounds t (.tuple #[goInt (-1), .bool false, z]), defers := a.defers } w') : wpT P ops Q (i :: rest) a w := by
  intro b k cs hb
  obtain ⟨e, a', w'', hq, harr⟩ := h b k cs hb
  have hs := step_lone_select_default (stepG_comm (P := P) (b := b) (k := k) (cs := cs) (rest := rest) (main := true) hi hw hb hy) hc
  rw [Frame.finish_at, hi, Option.bind_some, hd] at hs
  exact ⟨e, a', w'', hq, .of_steps (.one hs) harr⟩
end
end Go.Proofs.YtafopojibpifoaaGreat

/- A pool in memory; New. -/
namespace Go.Proofs.YtafopojibpifoaaGreat
open Go.RowKit

namespace Sp
/-- A page that is in: in which frame, how often it is pinned. -/
structure It where
  page : Pg
  pins : Nat
  dirty : Bool
  from_ : Nat
  idx : Nat
/-- A pool: its pages, who was pinned last stands last; the frames that are free. -/
structure Pl where
  n : Nat
  items : List It
  free : List Nat
def Pl.find (p : Pl) (id : Nat) : Option It := p.items.find? (fun it => it.page.id == id)
def Pl.lk (p : Pl) : Nat → Option Nat := fun id => (p.find id).map (·.idx)
structure Pl.wf (p : Pl) : Prop where
  n1 : 1 ≤ p.n
  n64 : p.n ≤ 64
  idx : (p.free ++ p.items.map (·.idx)).Perm (List.range p.n)
  ids : (p.items.map (·.page.id)).Nodup
  pg : ∀ it ∈ p.items, it.page.wf ∧ it.page.may
  small : ∀ it ∈ p.items, it.pins ≤ 1000000000 ∧ it.from_ < 18446744073709551616
end Sp

def frCells (it : Sp.It) (A : Option Addr) (c : Nat) : List Value :=
  [.int .u8 it.page.kind, .int .u8 it.page.level, .int .u32 it.page.id, .int .u64 it.page.lsn, .int .u32 it.page.next, .slice A it.page.rows.length c, .int .i64 it.pins, .bool it.dirty, .int .u64 it.from_]
def zeroFr : List Value := [.int .u8 0, .int .u8 0, .int .u32 0, .int .u64 0, .int .u32 0, .slice none 0 0, .int .i64 0, .bool false, .int .u64 0]

abbrev plCells (gd gl at_ base fb n cb mb : Nat) (v : Value) : Array Value :=
  #[ptr gd, ptr gl, .int .i64 at_, .int .i64 base, .slice (some ⟨fb, 0, none⟩) n n, .chan (some cb), .map (some mb), v]

/-- The frames' cells. -/
structure IsFr (R : Foot) (w : World) (fb : Nat) (p : Sp.Pl) (cs : Array Value) : Prop where
  blk : Blk w fb 145 cs
  size : cs.size = p.n * 9
  item : ∀ it ∈ p.items, ∃ A c, OkAddr A ∧ RowsAt R w A it.page.rows ∧ ∀ j, j < 9 → cs[it.idx * 9 + j]? = (frCells it A c)[j]?
  free : ∀ i ∈ p.free, ∀ j, j < 9 → cs[i * 9 + j]? = zeroFr[j]?

/-- The parts of a pool in memory; fl: which frames the channel has, ids: the row (while a call is under way they are not yet those of p). -/
structure IsPlAt (F R : Foot) (w : World) (gp gd gl at_ base fb cb mb : Nat) (v : Value) (s r : Nat) (cs : Array Value) (fl ids : List Nat) (p : Sp.Pl) : Prop where
  wf : p.wf
  blk : Blk w gp 140 (plCells gd gl at_ base fb p.n cb mb v)
  fr : IsFr R w fb p cs
  chan : w.heap[cb]? = some (.chan p.n (fl.map fun (i : Nat) => Value.int .i64 (i : Int)).toArray false s r false)
  map : UMap Tryz.prog 33 3 w mb p.items.length p.lk
  row : w.ownsRow 0 33 1 v ids.length (ids.map fun (i : Nat) => Value.int .u32 (i : Int))
  foot : F gp ∧ F fb ∧ F cb ∧ F mb ∧ ∀ b, v.ownBlock = some b → F b
  rows : ∀ b, R b → F b ∧ b ≠ gp ∧ b ≠ fb ∧ b ≠ cb ∧ b ≠ mb ∧ v.ownBlock ≠ some b
  lt : ∀ b, F b → b < w.heap.size

/-- A pool in memory: its struct in block gp; F is all its blocks. -/
def IsPl (F : Foot) (w : World) (gp gd gl at_ base : Nat) (p : Sp.Pl) : Prop :=
  ∃ R fb cb mb v s r cs, IsPlAt F R w gp gd gl at_ base fb cb mb v s r cs p.free (p.items.map (·.page.id)) p

theorem IsFr.keep {R : Foot} {w w' : World} {fb : Nat} {p : Sp.Pl} {cs : Array Value} (h : IsFr R w fb p cs) (hs : w.heap.size ≤ w'.heap.size) (hf : w'.heap[fb]? = w.heap[fb]?) (hk : ∀ b, R b → w'.heap[b]? = w.heap[b]?) : IsFr R w' fb p cs :=
  ⟨h.blk.keep hf, h.size, fun it hit => by
    obtain ⟨A, c, hA, hR, hc⟩ := h.item it hit
    exact ⟨A, c, hA, hR.keep hs hk, hc⟩, h.free⟩

theorem IsPlAt.keep {F R : Foot} {w w' : World} {gp gd gl at_ base fb cb mb s r : Nat} {v : Value} {cs : Array Value} {fl ids : List Nat} {p : Sp.Pl} (h : IsPlAt F R w gp gd gl at_ base fb cb mb v s r cs fl ids p) (hs : w.heap.size ≤ w'.heap.size)
    (hk : ∀ b, F b → w'.heap[b]? = w.heap[b]?) : IsPlAt F R w' gp gd gl at_ base fb cb mb v s r cs fl ids p := by
  obtain ⟨f1, f2, f3, f4, f5⟩ := h.foot
  refine ⟨h.wf, h.blk.keep (hk _ f1), h.fr.keep hs (hk _ f2) (fun b hb => hk b (h.rows b hb).1), (hk _ f3).trans h.chan, h.map.keep (hk _ f4), ⟨h.row.1, ?_⟩, h.foot, h.rows, fun b hb => Nat.lt_of_lt_of_le (h.lt b hb) hs⟩
  rcases h.row.2 with h' | ⟨b, cap, cur, rfl, hb, hh, rest⟩
  · exact .inl h'
  · exact .inr ⟨b, cap, cur, rfl, hb, (hk b (f5 b rfl)).trans hh, rest⟩
theorem IsPl.keep {F : Foot} {w w' : World} {gp gd gl at_ base : Nat} {p : Sp.Pl} (h : IsPl F w gp gd gl at_ base p) (hs : w.heap.size ≤ w'.heap.size) (hk : ∀ b, F b → w'.heap[b]? = w.heap[b]?) : IsPl F w' gp gd gl at_ base p := by
  obtain ⟨R, fb, cb, mb, v, s, r, cs, h⟩ := h
  exact ⟨R, fb, cb, mb, v, s, r, cs, h.keep hs hk⟩
theorem IsPl.lt {F : Foot} {w : World} {gp gd gl at_ base : Nat} {p : Sp.Pl} (h : IsPl F w gp gd gl at_ base p) : ∀ b, F b → b < w.heap.size := by
  obtain ⟨R, fb, cb, mb, v, s, r, cs, h⟩ := h
  exact h.lt
theorem IsPl.below {F : Foot} {w w' : World} {gp gd gl at_ base : Nat} {p : Sp.Pl} (h : IsPl F w gp gd gl at_ base p) (hb : Below w.heap.size w w') : IsPl F w' gp gd gl at_ base p :=
  h.keep hb.size (fun b hF => hb.block b (h.lt b hF))
theorem IsPl.wf {F : Foot} {w : World} {gp gd gl at_ base : Nat} {p : Sp.Pl} (h : IsPl F w gp gd gl at_ base p) : p.wf := by
  obtain ⟨R, fb, cb, mb, v, s, r, cs, h⟩ := h
  exact h.wf

def zeroFrA : Value := .agg zeroFr.toArray
theorem fr_info : (Tryz.prog.info? 145).map (fun i => (i.zero, i.size, i.bytes)) = some (some zeroFrA, 9, 72) := by kernel_rfl
theorem int_info2 : (Tryz.prog.info? 3).map (fun i => (i.zero, i.size, i.bytes)) = some (some (.int .i64 0), 1, 8) := by kernel_rfl

theorem made_at (n j : Nat) (i : Nat) (hi : i < n) (hj : j < 9) : (madeCells zeroFrA.cells (n * 9))[i * 9 + j]? = zeroFr[j]? := by
  unfold madeCells
  have e : zeroFrA.cells = zeroFr.toArray := rfl
  have hlt : i * 9 + j < n * 9 := by omega
  have hm : (i * 9 + j) % 9 = j := by omega
  rw [e]
  simp only [zeroFr, List.size_toArray, List.length_cons, List.length_nil, Nat.reduceAdd]
  simp [hlt, hm]
  match j, hj with
  | 0, _ | 1, _ | 2, _ | 3, _ | 4, _ | 5, _ | 6, _ | 7, _ | 8, _ => rfl
end Go.Proofs.YtafopojibpifoaaGreat

/-
  DERIVED: THE SHELF's CONTRACTS AT THIS DUMP, IN PLAIN WORDS (tools/lay-plain.mjs out of 'TryzShel2.lean', which tools/lay-shelf.mjs wrote): THE SAME DECLARATIONS UNDER THE SAME NAMES: 'import', 'namespace', 'open', 'def', 'theorem' AND NOTHING ELSE: no command of the shelf's: FOR A HAND-IN. Each laying: the table of numbers ('.._ren') and one theorem, a field a fact of the dump's own or the kernel's comparison; each contract: ONE APPLICATION.
-/
namespace Go.Proofs
open Go.Shelf
def Tryz.laysSlE041_f97_ren : Go.Shelf.Ren := ⟨fun | 41 => 97 | n => n, fun | 22 => 49 | 23 => 9 | 4 => 4 | n => n, fun | n => n⟩
theorem Tryz.laysSlE041_f97 : Go.Proofs.SlLaysE0.n41 Tryz.prog Tryz.laysSlE041_f97_ren := {
  mixed := by kernel_rfl
  f41 := ⟨Tryz.f97.name, by decide, Tryz.func97.trans (congrArg some (by kernel_rfl))⟩
  t4 := Tryz.underlying4
  a4 := Tryz.isAgg4
  z4 := Tryz.sizeOf4
  v4 := Tryz.zeroValue4
  t22 := Tryz.underlying49
  a22 := Tryz.isAgg49
  z22 := Tryz.sizeOf49
  v22 := Tryz.zeroValue49 }
open Go.RowKit Go.Lib in
/-- slices.Clone: "Clone returns a copy of the slice. The elements are copied using assignment, so this is a shallow clone. The result may have additional unused capacity. The result preserves the nilness of s.": OF A SLICE THAT IS NOT nil IT RETURNS A SLICE THAT IS NOT nil, OF THE SAME CELLS, IN MEMORY OF THE CALL's OWN ('ownsRow': the how-to's 6f); below the heap's size at the call all is as it was. (LAID AT THE INSTANCE 'slices.Clone[[]string,string]': no walk: one application.) -/
theorem Tryz.slices_Clone_f97 (i0 : TypeInfo) (z : Value) (size bytes : Nat) (hi : Tryz.prog.info? 9 = some i0) (hz0 : i0.zero = some z) (hz1 : i0.size = size) (hz2 : i0.bytes = bytes) (hzs : z.cells.size = size) (hsz : 0 < size) (z23 : ∀ w, (Go.sizeOf 9).run Tryz.prog w = .ok size w) (b off n c : Nat) (news : List Value) (w : World) (hl : news.length = n * size) (hn : n ≤ maxLen) (hbig : n * bytes ≤ 140737488355328) (hc : ∀ j u, news[j]? = some u → w.cell? ⟨b, off + j, none⟩ = some u) (h1 : ∀ u ∈ news, u.oneCell' = true) :
    Calls Tryz.prog 97 #[.slice (some ⟨b, off, none⟩) n c] w fun e w' => ∃ v', e = .returned v' ∧ w'.ownsRow w.heap.size 9 size v' n news ∧ v' ≠ .slice none 0 0 ∧ Below w.heap.size w w' := AnyE.slices_Clone Tryz.laysSlE041_f97 i0 z size bytes hi hz0 hz1 hz2 hzs hsz z23 b off n c news w hl hn hbig hc h1
open Go.RowKit Go.Lib in
/-- The same at nil: nil comes back; the world is as it was; nothing is asked of the element's type. (LAID AT THE INSTANCE 'slices.Clone[[]string,string]': no walk: one application.) -/
theorem Tryz.slices_Clone_nil_f97 (n c : Nat) (w : World) :
    Calls Tryz.prog 97 #[.slice none n c] w fun e w' => e = .returned (.slice none 0 0) ∧ w' = w := AnyE.slices_Clone_nil Tryz.laysSlE041_f97 n c w
def Tryz.laysSlH6_f137_ren : Go.Shelf.Ren := ⟨fun | 6 => 137 | n => n, fun | 22 => 34 | 23 => 33 | 25 => 192 | 3 => 3 | 0 => 0 | 4 => 4 | n => n, fun | n => n⟩
theorem Tryz.laysSlH6_f137 : Go.Proofs.SlLaysH.n6 Tryz.prog Tryz.laysSlH6_f137_ren := {
  mixed := by kernel_rfl
  f6 := ⟨Tryz.f137.name, by decide, Tryz.func137.trans (congrArg some (by kernel_rfl))⟩
  t0 := Tryz.underlying0
  a0 := Tryz.isAgg0
  z0 := Tryz.sizeOf0
  v0 := Tryz.zeroValue0
  t3 := Tryz.underlying3
  a3 := Tryz.isAgg3
  z3 := Tryz.sizeOf3
  v3 := Tryz.zeroValue3
  t4 := Tryz.underlying4
  a4 := Tryz.isAgg4
  z4 := Tryz.sizeOf4
  v4 := Tryz.zeroValue4
  t22 := Tryz.underlying34
  a22 := Tryz.isAgg34
  z22 := Tryz.sizeOf34
  v22 := Tryz.zeroValue34
  a23 := Tryz.isAgg33
  z23 := Tryz.sizeOf33
  t25 := Tryz.underlying192
  a25 := Tryz.isAgg192
  z25 := Tryz.sizeOf192
  v25 := Tryz.zeroValue192 }
open Go.RowKit Go.Lib in
/-- slices.IndexFunc: "IndexFunc returns the first index i satisfying f(s[i]), or -1 if none do." (LAID AT THE INSTANCE 'slices.IndexFunc[[]uint32,uint32]': no walk: one application.) -/
theorem Tryz.slices_IndexFunc_f137 {α : Type} [Inhabited α] (enc : α → Value) (p : α → Bool) (g : Nat) (lb : Array Value) (eg : ∀ args w, (callFunc g args).run Tryz.prog w = .ok (.enter g args) w) (b off n c : Nat) (zs : List α) (w : World) (hp : PredAt Tryz.prog g lb enc p w) (hz : n ≤ zs.length) (hbig : n ≤ 9223372036854775807) (hc : ∀ j, j < zs.length → w.cell? ⟨b, off + j, none⟩ = some (enc zs[j]!)) :
    Calls Tryz.prog 137 #[.slice (some ⟨b, off, none⟩) n c, .func (.func g) #[] lb] w fun e w' => e = .returned (.int .i64 (Lib.idxBy (fun _ y => p y) (zs.take n) default)) ∧ ∃ q, w' = w.drewN q := AnyE.slices_IndexFunc Tryz.laysSlH6_f137 enc p g lb eg b off n c zs w hp hz hbig hc
open Go.RowKit Go.Lib in
/-- The same at a slice of length 0, a nil one too: the predicate is not called: nothing is asked of it. (LAID AT THE INSTANCE 'slices.IndexFunc[[]uint32,uint32]': no walk: one application.) -/
theorem Tryz.slices_IndexFunc_empty_f137 {α : Type} [Inhabited α] (a : Option Addr) (c : Nat) (fv : Value) (w : World) :
    Calls Tryz.prog 137 #[.slice a 0 c, fv] w fun e w' => e = .returned (.int .i64 (-1)) ∧ w' = w := AnyE.slices_IndexFunc_empty Tryz.laysSlH6_f137 a c fv w
def Tryz.laysSlH10_f98_ren : Go.Shelf.Ren := ⟨fun | 10 => 98 | 6 => 137 | n => n, fun | 22 => 34 | 23 => 33 | 25 => 192 | 3 => 3 | 4 => 4 | 0 => 0 | n => n, fun | n => n⟩
theorem Tryz.laysSlH10_f98 : Go.Proofs.SlLaysH.n10 Tryz.prog Tryz.laysSlH10_f98_ren := {
  mixed := by kernel_rfl
  f6 := ⟨Tryz.f137.name, by decide, Tryz.func137.trans (congrArg some (by kernel_rfl))⟩
  f10 := ⟨Tryz.f98.name, by decide, Tryz.func98.trans (congrArg some (by kernel_rfl))⟩
  t0 := Tryz.underlying0
  a0 := Tryz.isAgg0
  z0 := Tryz.sizeOf0
  v0 := Tryz.zeroValue0
  t3 := Tryz.underlying3
  a3 := Tryz.isAgg3
  z3 := Tryz.sizeOf3
  v3 := Tryz.zeroValue3
  t4 := Tryz.underlying4
  a4 := Tryz.isAgg4
  z4 := Tryz.sizeOf4
  v4 := Tryz.zeroValue4
  t22 := Tryz.underlying34
  a22 := Tryz.isAgg34
  z22 := Tryz.sizeOf34
  v22 := Tryz.zeroValue34
  a23 := Tryz.isAgg33
  z23 := Tryz.sizeOf33
  t25 := Tryz.underlying192
  a25 := Tryz.isAgg192
  z25 := Tryz.sizeOf192
  v25 := Tryz.zeroValue192 }
open Go.RowKit Go.Lib Go.Sort in
theorem Tryz.slices_DeleteFunc_f98 {α : Type} [Inhabited α] (enc : α → Value) (hO : OneCell enc) (p : α → Bool) (g : Nat) (lb : Array Value) (eg : ∀ args w, (callFunc g args).run Tryz.prog w = .ok (.enter g args) w) (zr : α) (v23 : ∀ w, (zeroValue 33).run Tryz.prog w = .ok (enc zr) w) (blk off cap : Nat) (d : Array α) (w : World) (hp : PredAt Tryz.prog g lb enc p w) (hpo : PredOver Tryz.prog g lb enc p blk off d.size w) (hH : Holds enc w blk off d) (hsz : d.size ≤ 9223372036854775807) (hcap : d.size ≤ cap) :
    Calls Tryz.prog 98 #[.slice (some ⟨blk, off, none⟩) d.size cap, .func (.func g) #[] lb] w fun e w' => e = .returned (.slice (some ⟨blk, off, none⟩) (d.toList.filter fun x => !p x).length cap) ∧ ∃ q, w' = putRow enc (Sort.ahead w q) blk off ((d.toList.filter fun x => !p x) ++ List.replicate (d.size - (d.toList.filter fun x => !p x).length) zr).toArray := AnyE.slices_DeleteFunc Tryz.laysSlH10_f98 enc hO p g lb eg zr v23 blk off cap d w hp hpo hH hsz hcap

end Go.Proofs
