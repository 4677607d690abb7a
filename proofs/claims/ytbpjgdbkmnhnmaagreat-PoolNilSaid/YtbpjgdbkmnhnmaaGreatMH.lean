/- The walks of package twin: marks, homes. -/
import Derived.Test.YtbpjgdbkmnhnmaaGreatMG
import Derived.Test.YtbpjgdbkmnhnmaaGreatMB

namespace Go.Proofs.YtbpjgdbkmnhnmaaGreat
open Go.RowKit

theorem fn_info : (Tryz.prog.info? 110).map (fun i => (i.zero, i.size, i.bytes)) = some (some .nilFunc, 1, 8) := by kernel_rfl

set_option maxRecDepth 100000 in
set_option maxHeartbeats 2000000 in
theorem twin_marks {w : World} (g k : Nat) (s : Sp.Bs) :
    Calls Tryz.prog 75 #[ptr g, .int .i64 k, str s] w fun e w' => ∃ b c fs, e = .returned (.slice (some ⟨b, 0, none⟩) 2 c) ∧ w.heap.size ≤ b ∧ Blk w' b 110 fs.toArray ∧ fs.length = 2 ∧ (∀ u ∈ fs, u.oneCell' = true) ∧
      IsActs (fun b => w.heap.size ≤ b) w' g fs [.wr k s, .sync] ∧ Below w.heap.size w w' := by
  go_enter Tryz.func75, Tryz.ntmps75
  go_wp2_with fail
  go_ret
  have hb := (((((Below.refl _ w).alloc (Nat.le_refl _) (.cells #[ptr g] 33)).alloc (by simp) (.cells #[.int .i64 (k : Nat)] 3)).alloc (by simp; omega) (.cells #[str s] 9)).alloc (by simp; omega) (.cells #[.func (.func 127) #[] #[ptr w.heap.size, ptr (w.heap.size + 1), ptr (w.heap.size + 1 + 1)], .func (.func 63) #[ptr g] #[]] 110))
  have b0 := (((Blk.new w 33 #[ptr g]).alloc (.cells #[.int .i64 (k : Nat)] 3)).alloc (.cells #[str s] 9)).alloc (.cells #[.func (.func 127) #[] #[ptr w.heap.size, ptr (w.heap.size + 1), ptr (w.heap.size + 1 + 1)], .func (.func 63) #[ptr g] #[]] 110)
  have b1 := ((Blk.new (w.alloc (.cells #[ptr g] 33)) 3 #[.int .i64 (k : Nat)]).alloc (.cells #[str s] 9)).alloc (.cells #[.func (.func 127) #[] #[ptr w.heap.size, ptr (w.heap.size + 1), ptr (w.heap.size + 1 + 1)], .func (.func 63) #[ptr g] #[]] 110)
  have b2 := (Blk.new ((w.alloc (.cells #[ptr g] 33)).alloc (.cells #[.int .i64 (k : Nat)] 3)) 9 #[str s]).alloc (.cells #[.func (.func 127) #[] #[ptr w.heap.size, ptr (w.heap.size + 1), ptr (w.heap.size + 1 + 1)], .func (.func 63) #[ptr g] #[]] 110)
  have b3 := Blk.new (((w.alloc (.cells #[ptr g] 33)).alloc (.cells #[.int .i64 (k : Nat)] 3)).alloc (.cells #[str s] 9)) 110 #[.func (.func 127) #[] #[ptr w.heap.size, ptr (w.heap.size + 1), ptr (w.heap.size + 1 + 1)], .func (.func 63) #[ptr g] #[]]
  simp only [World.size_alloc] at b1 b2 b3
  refine ⟨_, 2, [.func (.func 127) #[] #[ptr w.heap.size, ptr (w.heap.size + 1), ptr (w.heap.size + 1 + 1)], .func (.func 63) #[ptr g] #[]], rfl, by omega, b3, rfl, ?_, ?_, hb⟩
  · intro u hu
    rcases List.mem_cons.1 hu with rfl | hu
    · rfl
    · rw [List.mem_singleton.1 hu]; rfl
  · exact (IsActs.one (a := .wr k s) (.inr ⟨_, _, _, rfl, ⟨Nat.le_refl _, by omega, by omega⟩, b0, b1, b2⟩)).app (IsActs.one (a := .sync) rfl)

/-- Homes as cells. -/
def hcs (l : List (Nat × Sp.Bs)) : List Value := (l.map fun x => [.int .u32 (x.1 : Nat), str x.2]).flatten
theorem hcs_length (l : List (Nat × Sp.Bs)) : (hcs l).length = l.length * 2 := flatten_length_all _ 2 l (fun _ _ => rfl)
theorem hcs_app (a b : List (Nat × Sp.Bs)) : hcs (a ++ b) = hcs a ++ hcs b := by simp [hcs]
theorem hcs_at {l : List (Nat × Sp.Bs)} {i : Nat} (hi : i < l.length) : (hcs l)[i * 2]? = some (.int .u32 (l[i].1 : Nat)) ∧ (hcs l)[i * 2 + 1]? = some (str l[i].2) := by
  have e : l = l.take i ++ l[i] :: l.drop (i + 1) := by rw [← List.drop_eq_getElem_cons hi, List.take_append_drop]
  have h1 : (hcs (l.take i)).length = i * 2 := by rw [hcs_length, List.length_take, Nat.min_eq_left (by omega)]
  have e2 : hcs l = hcs (l.take i) ++ ([.int .u32 (l[i].1 : Nat), str l[i].2] ++ hcs (l.drop (i + 1))) := by
    conv => lhs; rw [e]
    rw [hcs_app]; rfl
  rw [e2]
  constructor
  · rw [List.getElem?_append_right (by omega), h1, Nat.sub_self]; rfl
  · rw [List.getElem?_append_right (by omega), h1, show i * 2 + 1 - i * 2 = 1 by omega]; rfl

theorem Reads.home {G : Foot} {w : World} {A : Option Addr} {l : List (Nat × Sp.Bs)} (h : Reads G w 2 A l.length (hcs l)) {k : Nat} (hk : k < l.length) :
    ∃ b o, A = some ⟨b, o, none⟩ ∧ G b ∧ b < w.heap.size ∧ w.cell? ⟨b, o + k * 2, none⟩ = some (.int .u32 (l[k].1 : Nat)) ∧ w.cell? ⟨b, o + k * 2 + 1, none⟩ = some (str l[k].2) := by
  obtain ⟨b, o, e, hG, hb, hc⟩ := h.2 (by omega)
  have h2 := hcs_at hk
  exact ⟨b, o, e, hG, hb, hc _ _ h2.1, hc _ _ h2.2⟩

def Sp.homeActs (base : Nat) (x : Nat × Sp.Bs) : List Sp.TAct := (List.range 4).map fun j => .wr (base + x.1 * 4 + j) ((x.2.drop (j * 128)).take 128)
def Sp.homesActs (base : Nat) (l : List (Nat × Sp.Bs)) : List Sp.TAct := (l.map (Sp.homeActs base)).flatten

theorem Sp.homeActs_length (base : Nat) (x : Nat × Sp.Bs) : (Sp.homeActs base x).length = 4 := by simp [Sp.homeActs]
theorem Sp.homesActs_length (base : Nat) (l : List (Nat × Sp.Bs)) : (Sp.homesActs base l).length = l.length * 4 := flatten_length_all _ 4 l (fun _ _ => Sp.homeActs_length _ _)
theorem Sp.homesActs_app (base : Nat) (a b : List (Nat × Sp.Bs)) : Sp.homesActs base (a ++ b) = Sp.homesActs base a ++ Sp.homesActs base b := by simp [Sp.homesActs]
theorem Sp.homesActs_succ (base : Nat) (l : List (Nat × Sp.Bs)) (i : Nat) (hi : i < l.length) : Sp.homesActs base (l.take (i + 1)) = Sp.homesActs base (l.take i) ++ Sp.homeActs base l[i] := by
  rw [List.take_succ_eq_append_getElem hi, Sp.homesActs_app]; simp [Sp.homesActs]
theorem Sp.homeActs_succ (base : Nat) (x : Nat × Sp.Bs) (j : Nat) (hj : j < 4) : (Sp.homeActs base x).take (j + 1) = (Sp.homeActs base x).take j ++ [.wr (base + x.1 * 4 + j) ((x.2.drop (j * 128)).take 128)] := by
  rw [List.take_succ_eq_append_getElem (by rw [Sp.homeActs_length]; exact hj)]
  simp [Sp.homeActs]

theorem IsAct.grown {G : Foot} {w w' : World} {g : Nat} {v : Value} {a : Sp.TAct} {row : Option Nat} (h : IsAct G w g v a) (hg : w.grownBy w' row) (hr : ∀ r, row = some r → ∃ cs, Blk w r 110 cs) : IsAct G w' g v a := by
  have key : ∀ {b t cs}, Blk w b t cs → t ≠ 110 → Blk w' b t cs := fun {b t cs} hb hne => hb.grown hg (fun e => by
    obtain ⟨cs', hc⟩ := hr _ e.symm
    exact Blk.ne_ hb hc hne rfl)
  cases a with
  | sync => exact h
  | wr k s =>
    rcases h with ⟨b0, b1, b2, b3, p, t, j, e, hG, h0, h1, h2, h3, rest⟩ | ⟨b0, b1, b2, e, hG, h0, h1, h2⟩
    · exact .inl ⟨b0, b1, b2, b3, p, t, j, e, hG, key h0 (by decide), key h1 (by decide), key h2 (by decide), key h3 (by decide), rest⟩
    · exact .inr ⟨b0, b1, b2, e, hG, key h0 (by decide), key h1 (by decide), key h2 (by decide)⟩
theorem IsActs.grown {G : Foot} {w w' : World} {g : Nat} {fs : List Value} {as_ : List Sp.TAct} {row : Option Nat} (h : IsActs G w g fs as_) (hg : w.grownBy w' row) (hr : ∀ r, row = some r → ∃ cs, Blk w r 110 cs) : IsActs G w' g fs as_ :=
  ⟨h.1, fun i v a hv ha => (h.2 i v a hv ha).grown hg hr⟩
theorem IsActs.below {G : Foot} {w w' : World} {g : Nat} {fs : List Value} {as_ : List Sp.TAct} (h : IsActs G w g fs as_) (hb : Below w.heap.size w w') : IsActs G w' g fs as_ :=
  h.grown (row := none) ⟨hb.os, hb.tape, hb.output, hb.size, fun b hb' _ => hb.block b hb'⟩ (fun r e => by cases e)

theorem own_blk {w : World} {base e size n : Nat} {v : Value} {xs : List Value} (h : w.ownsRow base e size v n xs) : ∀ r, v.ownBlock = some r → ∃ cs, Blk w r e cs := by
  intro r hr
  rcases h.2 with ⟨rfl, _⟩ | ⟨b, cap, cur, rfl, _, hh, _⟩
  · cases hr
  · have : b = r := by simpa [Value.ownBlock] using hr
    subst this
    exact ⟨cur, hh⟩

set_option maxRecDepth 100000 in
set_option maxHeartbeats 4000000 in
theorem twin_homes {G : Foot} {w : World} (g base : Nat) {A : Option Addr} {c : Nat} {l : List (Nat × Sp.Bs)} (hR : Reads G w 2 A l.length (hcs l)) (hl : l.length ≤ 1000) (hp : ∀ x ∈ l, x.1 < 4294967296 ∧ x.2.length = 512) (hb : base ≤ 1000000) :
    Calls Tryz.prog 74 #[ptr g, .int .i64 base, .slice A l.length c] w fun e w' => ∃ v fs, e = .returned v ∧ w'.ownsRow w.heap.size 110 1 v (l.length * 4 + 1) fs ∧
      IsActs (fun b => w.heap.size ≤ b) w' g fs (Sp.homesActs base l ++ [.sync]) ∧ Below w.heap.size w w' := by
  obtain ⟨i0, hi, hz0, hz1, hz2⟩ := info_parts fn_info
  have HR := Lib.hid hR
  have HP := Lib.hid hp
  clear hR hp
  go_enter Tryz.func74, Tryz.ntmps74
  go_wp2_with fail
  have hbx0 : Hid (Blk (w.alloc (.cells #[ptr g] 33)) w.heap.size 33 #[ptr g]) := Blk.new w _ _
  have hbw0 := (Below.refl _ w).alloc (Nat.le_refl _) (.cells #[ptr g] 33)
  have hs0 : w.heap.size < (w.alloc (.cells #[ptr g] 33)).heap.size := by simp
  generalize w.alloc (.cells #[ptr g] 33) = w1 at *
  go_loopw [6, 8, 9, 10, 13, 17] (fun v _ _ _ i _ wr => ∃ (k : Nat) (fs : List Value), k ≤ l.length ∧ i = .int .i64 k ∧ wr.ownsRow w.heap.size 110 1 v (k * 4) fs ∧
      IsActs (fun b => w.heap.size ≤ b) wr g fs (Sp.homesActs base (l.take k)) ∧ Below w.heap.size w wr ∧ Blk wr w.heap.size 33 #[ptr g]) (fun _ _ _ _ i _ _ => l.length - (intOf i).toNat)
  case atStart => exact ⟨0, [], by omega, rfl, by simpa using World.ownsRow_nil _ _ _ _, by simpa [Sp.homesActs] using IsActs.nil _ _ _, hbw0, hbx0.out⟩
  case round =>
    obtain ⟨wo, rfl⟩ : ∃ wo : World, wo = wr := ⟨_, rfl⟩
    obtain ⟨k, fs, hk, rfl, hO, hA, hbr, hB⟩ := hrel
    by_cases hlt : k < l.length
    · obtain ⟨b, o, rfl, _, _, r0, r1⟩ := (Reads.below HR.out hbr).home hlt
      have hpk := HP.out _ (List.getElem_mem hlt)
      have hp1 : l[k].1 < 4294967296 := hpk.1
      have htx := Lib.hid hpk.2
      have hsn := Lib.hid (Sp.homesActs_succ base l k hlt)
      have hmeas : k + 1 ≤ l.length := hlt
      clear hpk
      generalize hx : l[k] = x at *
      obtain ⟨p, t⟩ := x
      dsimp only at *
      have hB8 := Lib.hid (Blk.new wo 75 #[.int .u32 (p : Nat), str t])
      have hA8 := Lib.hid (hA.below ((Below.refl _ wo).alloc (Nat.le_refl _) (.cells #[.int .u32 (p : Nat), str t] 75)))
      have hO8 := Lib.hid (hO.alloc (.cells #[.int .u32 (p : Nat), str t] 75))
      have hBx := Lib.hid (hB.alloc (.cells #[.int .u32 (p : Nat), str t] 75))
      have hbr8 := hbr.alloc hbr.size (.cells #[.int .u32 (p : Nat), str t] 75)
      have hs8 : wo.heap.size < (wo.alloc (.cells #[.int .u32 (p : Nat), str t] 75)).heap.size := by simp
      have hs9 := hbr.size
      clear hx hO hA hB
      go_wp2_with fail
      obtain ⟨w8, hw8⟩ : ∃ w8, wo.alloc (.cells #[.int .u32 (p : Nat), str t] 75) = w8 := ⟨_, rfl⟩
      rw [hw8] at hB8 hA8 hO8 hBx hbr8 hs8 ⊢
      clear r0 r1 hw8
      go_loopw [6, 9, 10, 17] (fun v _ _ j W => ∃ (q : Nat) (fs : List Value), q ≤ 4 ∧ j = .int .i64 q ∧ W.ownsRow w.heap.size 110 1 v (k * 4 + q) fs ∧
        IsActs (fun b => w.heap.size ≤ b) W g fs (Sp.homesActs base (l.take k) ++ (Sp.homeActs base (p, t)).take q) ∧ Below w.heap.size w W ∧ Blk W w.heap.size 33 #[ptr g] ∧ Blk W wo.heap.size 75 #[.int .u32 (p : Nat), str t]) (fun _ _ _ j _ => 4 - (intOf j).toNat)
      case atStart => exact ⟨0, fs, by omega, rfl, hO8.out, by simpa using hA8.out, hbr8, hBx.out, hB8.out⟩
      case round =>
        obtain ⟨q, fs2, hq, rfl, hO, hA, hbr9, hB, hB2⟩ := hrel
        by_cases hlt2 : q < 4
        · have c2 := hB2.cell 0
          simp only [List.getElem?_toArray, List.getElem?_cons_zero] at c2
          have hlt8 := hB2.lt
          have hlt0 := hB.lt
          have hsn2 := Lib.hid (Sp.homeActs_succ base (p, t) q hlt2)
          have HO := Lib.hid (((hO.alloc (.cells #[.int .i64 (q : Nat)] 3)).alloc (.cells #[.int .i64 ((base : Int) + p * 4 + q)] 3)).alloc (.cells #[.func (.func 126) #[] #[ptr w.heap.size, ptr (wr.heap.size + 1), ptr wo.heap.size, ptr wr.heap.size]] 110))
          have HB := Lib.hid (((hB.alloc (.cells #[.int .i64 (q : Nat)] 3)).alloc (.cells #[.int .i64 ((base : Int) + p * 4 + q)] 3)).alloc (.cells #[.func (.func 126) #[] #[ptr w.heap.size, ptr (wr.heap.size + 1), ptr wo.heap.size, ptr wr.heap.size]] 110))
          have HB2 := Lib.hid (((hB2.alloc (.cells #[.int .i64 (q : Nat)] 3)).alloc (.cells #[.int .i64 ((base : Int) + p * 4 + q)] 3)).alloc (.cells #[.func (.func 126) #[] #[ptr w.heap.size, ptr (wr.heap.size + 1), ptr wo.heap.size, ptr wr.heap.size]] 110))
          have hbW : Below wr.heap.size wr (((wr.alloc (.cells #[.int .i64 (q : Nat)] 3)).alloc (.cells #[.int .i64 ((base : Int) + p * 4 + q)] 3)).alloc (.cells #[.func (.func 126) #[] #[ptr w.heap.size, ptr (wr.heap.size + 1), ptr wo.heap.size, ptr wr.heap.size]] 110)) := (((Below.refl _ wr).alloc (Nat.le_refl _) _).alloc (by simp) _).alloc (by simp; omega) _
          have HA := Lib.hid (hA.below hbW)
          have hbr10 := hbr9.trans (hbW.mono hbr9.size)
          have B9 := Lib.hid (((Blk.new wr 3 #[.int .i64 (q : Nat)]).alloc (.cells #[.int .i64 ((base : Int) + p * 4 + q)] 3)).alloc (.cells #[.func (.func 126) #[] #[ptr w.heap.size, ptr (wr.heap.size + 1), ptr wo.heap.size, ptr wr.heap.size]] 110))
          have B10 : Hid (Blk (((wr.alloc (.cells #[.int .i64 (q : Nat)] 3)).alloc (.cells #[.int .i64 ((base : Int) + p * 4 + q)] 3)).alloc (.cells #[.func (.func 126) #[] #[ptr w.heap.size, ptr (wr.heap.size + 1), ptr wo.heap.size, ptr wr.heap.size]] 110)) (wr.heap.size + 1) 3 #[.int .i64 ((base : Int) + p * 4 + q)]) := by
            have := (Blk.new (wr.alloc (.cells #[.int .i64 (q : Nat)] 3)) 3 #[.int .i64 ((base : Int) + p * 4 + q)]).alloc (.cells #[.func (.func 126) #[] #[ptr w.heap.size, ptr (wr.heap.size + 1), ptr wo.heap.size, ptr wr.heap.size]] 110)
            rw [World.size_alloc] at this
            exact this
          have hs10 := hbr9.size
          clear hO hA hB hB2 hbW
          go_wp2_with (at_builtin; refine wpList_append_own _ rfl _ _ 129 rfl w.heap.size 110 i0 .nilFunc 1 8 Tryz.underlying129 hi hz0 hz1 hz2 rfl (by decide) _ _ _ rfl HO.out ⟨wr.heap.size + 1 + 1, 0, none⟩ 1 1 [.func (.func 126) #[] #[ptr w.heap.size, ptr (wr.heap.size + 1), ptr wo.heap.size, ptr wr.heap.size]] rfl rfl (by have := cell_one_new ((wr.alloc (.cells #[.int .i64 (q : Nat)] 3)).alloc (.cells #[.int .i64 ((base : Int) + p * 4 + q)] 3)) (.func (.func 126) #[] #[ptr w.heap.size, ptr (wr.heap.size + 1), ptr wo.heap.size, ptr wr.heap.size]) 110; simpa only [World.size_alloc] using this) (fun x hx => by simp at hx; subst hx; rfl) (by unfold maxLen; omega) (by omega) (by simp; omega) ?_)
          intro v' w6 hown hgrow hnil
          have hrowb := own_blk HO.out
          have hA6 := HA.out.grown hgrow hrowb
          have hne9 : ∀ {b t cs}, Blk (((wr.alloc (.cells #[.int .i64 (q : Nat)] 3)).alloc (.cells #[.int .i64 ((base : Int) + p * 4 + q)] 3)).alloc (.cells #[.func (.func 126) #[] #[ptr w.heap.size, ptr (wr.heap.size + 1), ptr wo.heap.size, ptr wr.heap.size]] 110)) b t cs → t ≠ 110 → Blk w6 b t cs := fun {b t cs} hb hne => hb.grown hgrow (fun e => by
            obtain ⟨cs', hc⟩ := hrowb _ e.symm
            exact Blk.ne_ hb hc hne rfl)
          have h0 := hne9 HB.out (by decide)
          have h1 := hne9 B10.out (by decide)
          have h2 := hne9 HB2.out (by decide)
          have h3 := hne9 B9.out (by decide)
          have hb6 : Below w.heap.size w w6 := hbr10.grown hgrow hbr10.size (fun r e => (HO.out.lt r e).1)
          rw [show ((base : Int) + p * 4 + q) = ((base + p * 4 + q : Nat) : Int) by omega] at h1
          have hact : IsAct (fun b => w.heap.size ≤ b) w6 g (.func (.func 126) #[] #[ptr w.heap.size, ptr (wr.heap.size + 1), ptr wo.heap.size, ptr wr.heap.size]) (.wr (base + p * 4 + q) ((t.drop (q * 128)).take 128)) :=
            .inl ⟨_, _, _, _, p, t, q, rfl, ⟨Nat.le_refl _, by omega, by omega, by omega⟩, h0, h1, h2, h3, hlt2, htx.out, rfl⟩
          have HA7 := Lib.hid (hA6.app (IsActs.one hact))
          rw [List.append_assoc, ← hsn2.out] at HA7
          have HO7 := Lib.hid hown
          have H0 := Lib.hid h0
          have H2 := Lib.hid h2
          obtain ⟨g7, c7, rfl⟩ := own_form hown
          clear hnil hown hgrow hrowb hne9 hA6 h0 h1 h2 h3 hact c2
          go_wp2_with fail
          go_roundw
          case rel => exact ⟨q + 1, _, by omega, by go_num, HO7.out, HA7.out, hb6, H0.out, H2.out⟩
          case measure => simp [intOf]; omega
        · obtain rfl : q = 4 := by omega
          have h4 : (Sp.homeActs base (p, t)).take 4 = Sp.homeActs base (p, t) := List.take_of_length_le (by rw [Sp.homeActs_length]; exact Nat.le_refl _)
          rw [h4, ← hsn.out] at hA
          clear h4
          have HO7 := Lib.hid hO
          have HA7 := Lib.hid hA
          have H0 := Lib.hid hB
          clear hO hA hB hB2
          go_wp2_with fail
          go_roundw
          case rel => exact ⟨k + 1, _, hmeas, by go_num, by rw [show (k + 1) * 4 = k * 4 + 4 by omega]; exact HO7.out, HA7.out, hbr9, H0.out⟩
          case measure => simp [intOf]; omega
    · obtain rfl : k = l.length := by omega
      rw [List.take_length] at hA
      have c0 := hB.cell 0
      simp only [List.getElem?_toArray, List.getElem?_cons_zero] at c0
      have HA := Lib.hid (hA.below ((Below.refl _ wo).alloc (Nat.le_refl _) (.cells #[.func (.func 63) #[ptr g] #[]] 110)))
      have HO := Lib.hid (hO.alloc (.cells #[.func (.func 63) #[ptr g] #[]] 110))
      have hbr2 := hbr.alloc hbr.size (.cells #[.func (.func 63) #[ptr g] #[]] 110)
      have hs9 := hbr.size
      clear hA hO
      go_wp2_with (at_builtin; refine wpList_append_own _ rfl _ _ 129 rfl w.heap.size 110 i0 .nilFunc 1 8 Tryz.underlying129 hi hz0 hz1 hz2 rfl (by decide) _ _ _ rfl HO.out ⟨wo.heap.size, 0, none⟩ 1 1 [.func (.func 63) #[ptr g] #[]] rfl rfl (cell_one_new _ _ _) (fun x hx => by simp at hx; subst hx; rfl) (by unfold maxLen; omega) (by omega) (by simp; omega) ?_)
      intro v' w6 hown hgrow hnil
      have hA6 := (HA.out.grown hgrow (own_blk HO.out)).app (IsActs.one (a := .sync) (v := .func (.func 63) #[ptr g] #[]) rfl)
      have hb6 : Below w.heap.size w w6 := hbr2.grown hgrow hbr2.size (fun r e => (HO.out.lt r e).1)
      have HA7 := Lib.hid hA6
      have HO7 := Lib.hid hown
      obtain ⟨g7, c7, rfl⟩ := own_form hown
      clear hnil hown hgrow hA6 c0
      go_wp2_with fail
      go_ret
      exact ⟨_, _, rfl, HO7.out, HA7.out, hb6⟩
end Go.Proofs.YtbpjgdbkmnhnmaaGreat

/- The walks of package twin: mark. -/
namespace Go.Proofs.YtbpjgdbkmnhnmaaGreat
open Go.RowKit

namespace Sp
def markHead (l : List (Nat × Bs)) : Bs := [1, UInt8.ofNat l.length] ++ (l.map fun x => be 4 x.1).flatten
def markBs (l : List (Nat × Bs)) : Bs := sealed (markHead l ++ zeros (124 - (markHead l).length))
theorem markHead_length (l : List (Nat × Bs)) : (markHead l).length = 2 + 4 * l.length := by
  unfold markHead
  rw [List.length_append, flatten_length_all _ 4 l (fun _ _ => be_length 4 _)]
  simp; omega
theorem markBs_length {l : List (Nat × Bs)} (h : l.length ≤ 8) : (markBs l).length = 128 := by
  unfold markBs
  rw [sealed_length, List.length_append, markHead_length]
  simp only [zeros, List.length_replicate]
  omega
end Sp

set_option maxRecDepth 100000 in
set_option maxHeartbeats 4000000 in
theorem twin_mark {G : Foot} {w : World} {A : Option Addr} {c : Nat} {l : List (Nat × Sp.Bs)} (hR : Reads G w 2 A l.length (hcs l)) (hl : l.length ≤ 8) (hp : ∀ x ∈ l, x.1 < 4294967296) :
    Calls Tryz.prog 76 #[.slice A l.length c] w fun e w' => e = .returned (str (Sp.markBs l)) ∧ Below w.heap.size w w' := by
  have HR := Lib.hid hR
  have HP := Lib.hid hp
  have hbk : ∀ W : World, (convert 22 9 (.slice (some ⟨W.heap.size, 0, none⟩) 2 2)).run Tryz.prog (W.alloc (.cells #[.int .u8 1, .int .u8 (l.length : Nat)] 5)) = .ok (str [1, UInt8.ofNat l.length]) (W.alloc (.cells #[.int .u8 1, .int .u8 (l.length : Nat)] 5)) := fun W => by
    refine run_bytes_back _ _ _ 5 W.heap.size 0 2 2 [1, UInt8.ofNat l.length] Tryz.underlying22 Tryz.underlying5 Tryz.underlying9 rfl (fun j hj => ?_)
    refine ((Blk.new W 5 #[.int .u8 1, .int .u8 (l.length : Nat)]).cell (0 + j)).trans ?_
    match j, hj with
    | 0, _ => rfl
    | 1, _ =>
      simp only [List.getElem?_toArray, Nat.zero_add, List.getElem?_cons_succ, List.getElem?_cons_zero, List.getElem_cons_succ, List.getElem_cons_zero, UInt8.toNat_ofNat']
      rw [Nat.mod_eq_of_lt (by omega)]
  have HW : Hid (∀ (p : Nat) (W : World), p < 4294967296 → Calls Tryz.prog 102 #[.int .u64 (p : Nat), .int .i64 4] W fun e w' => e = .returned (.tuple #[str (Sp.be 4 p), .bool true]) ∧ Below W.heap.size W w') := fun p W hp => word_put p 4 W (by omega) (by omega) (by omega) (by omega)
  have hmk := run_zmake (124 - (Sp.markHead l).length) (by omega)
  have hzb := run_zback (124 - (Sp.markHead l).length)
  have hml := Sp.markHead_length l
  rw [show ((124 - (Sp.markHead l).length : Nat) : Int) = (124 : Int) - (Sp.markHead l).length by omega] at hmk
  have HS := Lib.hid fun (W : World) => sum_seal (Sp.markHead l ++ Sp.zeros (124 - (Sp.markHead l).length)) W (by simp [Sp.zeros]; omega)
  have HM : Hid (Sp.markHead l = [1, UInt8.ofNat l.length] ++ (l.map fun x => Sp.be 4 x.1).flatten) := rfl
  have HE : Hid (Sp.markBs l = Sp.sealed (Sp.markHead l ++ Sp.zeros (124 - (Sp.markHead l).length))) := rfl
  have HML := Lib.hid hml
  clear hR hp hml
  go_enter Tryz.func76, Tryz.ntmps76
  go_wp2_with fail
  have hb1 := (Below.refl _ w).alloc (Nat.le_refl _) (.cells #[.int .u8 1, .int .u8 (l.length : Nat)] 5)
  generalize w.alloc (.cells #[.int .u8 1, .int .u8 (l.length : Nat)] 5) = w1 at *
  go_loopw [3, 5, 6, 7, 15] (fun s _ _ _ i wr => ∃ k : Nat, k ≤ l.length ∧ i = .int .i64 k ∧ s = str ([1, UInt8.ofNat l.length] ++ ((l.take k).map fun x => Sp.be 4 x.1).flatten) ∧ Below w.heap.size w wr) (fun _ _ _ _ i _ => l.length - (intOf i).toNat)
  case atStart => exact ⟨0, by omega, rfl, by simp, hb1⟩
  case round =>
    obtain ⟨k, hk, rfl, rfl, hbr⟩ := hrel
    by_cases hlt : k < l.length
    · obtain ⟨b, o, rfl, _, _, r0, r1⟩ := (Reads.below HR.out hbr).home hlt
      have hpk := HP.out _ (List.getElem_mem hlt)
      have hsn : ((l.take (k + 1)).map fun x => Sp.be 4 x.1).flatten = ((l.take k).map fun x => Sp.be 4 x.1).flatten ++ Sp.be 4 l[k].1 := by
        rw [List.take_succ_eq_append_getElem hlt, List.map_append, List.flatten_append]
        simp only [List.map_cons, List.map_nil, List.flatten_cons, List.flatten_nil, List.append_nil]
      have hlen : ([1, UInt8.ofNat l.length] ++ ((l.take k).map fun x => Sp.be 4 x.1).flatten).length ≤ 1000 := by
        rw [List.length_append, flatten_length_all _ 4 _ (fun _ _ => Sp.be_length 4 _), List.length_take]
        have := Nat.min_le_right k l.length
        simp; omega
      have hlen4 : (Sp.be 4 l[k].1).length ≤ 4 := by rw [Sp.be_length]; exact Nat.le_refl _
      have HSN := Lib.hid hsn
      have hmeas : k + 1 ≤ l.length := hlt
      have HWK := Lib.hid fun W => HW.out l[k].1 W hpk
      have hb2 := hbr.alloc hbr.size (.cells #[.int .u32 (l[k].1 : Nat), str l[k].2] 75)
      have hs9 := hbr.size
      clear hsn
      generalize l[k] = x at *
      obtain ⟨p, t⟩ := x
      dsimp only at *
      generalize hs0 : [1, UInt8.ofNat l.length] ++ ((l.take k).map fun x => Sp.be 4 x.1).flatten = s0 at *
      have HS0 := Lib.hid hs0
      clear hs0
      generalize Sp.be 4 p = s1 at *
      go_wp2_with fail
      refine (HWK.out _).mono ?_
      rintro e w2 ⟨rfl, hb3⟩
      have hb4 := hb2.trans (hb3.mono hb2.size)
      clear hb2 hb3 r0 r1
      go_wp2_with fail
      go_roundw
      case rel => exact ⟨k + 1, hmeas, by go_num, by rw [HSN.out, ← List.append_assoc, HS0.out, str_append], hb4⟩
      case measure => simp [intOf]; omega
    · obtain rfl : k = l.length := by omega
      rw [List.take_length, ← HM.out]
      have hmll : (Sp.markHead l).length ≤ 34 := by rw [HML.out]; omega
      have hzl : (Sp.zeros (124 - (Sp.markHead l).length)).length ≤ 124 := by simp [Sp.zeros]
      have hbr2 := hbr.alloc hbr.size (.cells (zrow (124 - (Sp.markHead l).length)) 5)
      go_wp2_with fail
      rw [str_append]
      refine (HS.out _).mono ?_
      rintro e w2 ⟨rfl, hb3⟩
      rw [← HE.out]
      have hb4 := hbr2.trans (hb3.mono hbr2.size)
      go_wp2_with fail
      go_ret
      exact ⟨rfl, hb4⟩
end Go.Proofs.YtbpjgdbkmnhnmaaGreat

/- The walks of package twin: may. -/
namespace Go.Proofs.YtbpjgdbkmnhnmaaGreat
open Go.RowKit

theorem Tryz.zb (w : World) : (zeroValue 4).run Tryz.prog w = .ok (.bool false) w := by kernel_rfl

set_option maxRecDepth 100000 in
set_option maxHeartbeats 4000000 in
theorem twin_may {F G : Foot} {w : World} {g : Nat} {d : Sp.Dk} (h : IsDk F w g d) (at_ base : Nat) {A : Option Addr} {c : Nat} {l : List (Nat × Sp.Bs)} (hR : Reads G w 2 A l.length (hcs l)) (h1 : 1 ≤ l.length) (h8 : l.length ≤ 8)
    (hp : ∀ x ∈ l, x.1 < 4294967296 ∧ x.2.length = 512 ∧ Sp.inside d.sure.length at_ base x.1) (hn : (l.map (·.1)).Nodup) :
    Calls Tryz.prog 73 #[ptr g, .int .i64 at_, .int .i64 base, .slice A l.length c] w fun e w' => e = .returned (.bool true) ∧ Below w.heap.size w w' := by
  have HR := Lib.hid hR
  have HP := Lib.hid hp
  have HN := Lib.hid hn
  have HD := Lib.hid h
  have hmm := @run_makeMap Tryz.prog
  clear h hR hp hn
  go_enter Tryz.func73, Tryz.ntmps73
  go_wp2_with fail
  have hU0 : USet Tryz.prog 26 4 (w.alloc (.map #[] 0)) w.heap.size 0 [] := USet.made w
  have hb0 := (Below.refl _ w).alloc (Nat.le_refl _) (.map #[] 0)
  have HU0 := Lib.hid hU0
  clear hU0 hmm
  generalize w.alloc (.map #[] 0) = w1 at *
  go_loopw [11, 15] (fun _ i wr => ∃ k : Nat, k ≤ l.length ∧ i = .int .i64 k ∧ USet Tryz.prog 26 4 wr w.heap.size k ((l.take k).map (·.1)) ∧ Below w.heap.size w wr) (fun _ i _ => l.length - (intOf i).toNat)
  case atStart => exact ⟨0, by omega, rfl, HU0.out, hb0⟩
  case round =>
    obtain ⟨k, hk, rfl, hU, hbr⟩ := hrel
    by_cases hlt : k < l.length
    · obtain ⟨b, o, rfl, _, _, r0, r1⟩ := (Reads.below HR.out hbr).home hlt
      obtain ⟨hp1, hp2, hp3⟩ := HP.out _ (List.getElem_mem hlt)
      have hmeas : k + 1 ≤ l.length := hlt
      have hnot : l[k].1 ∉ (l.take k).map (·.1) := by
        have hs : l.map (·.1) = (l.take k).map (·.1) ++ l[k].1 :: (l.drop (k + 1)).map (·.1) := by
          conv => lhs; rw [← List.take_append_drop k l, List.drop_eq_getElem_cons hlt]
          rw [List.map_append, List.map_cons]
        have hnd := HN.out
        rw [hs, List.nodup_append] at hnd
        intro hm
        exact hnd.2.2 _ hm _ (List.mem_cons_self) rfl
      have hsn : (l.take (k + 1)).map (·.1) = (l.take k).map (·.1) ++ [l[k].1] := by
        rw [List.take_succ_eq_append_getElem hlt, List.map_append]; rfl
      have HSN := Lib.hid hsn
      have d1 : ((l[k].2.length : Int) != 512) = false := by rw [hp2]; rfl
      have hUa := hU.alloc (.cells #[.int .u32 (l[k].1 : Nat), str l[k].2] 75)
      have hrun := hUa.look_not Tryz.underlying26 Tryz.underlying4 Tryz.underlying96 (Tryz.zb _) hp1 hnot
      have hb2 := hbr.alloc hbr.size (.cells #[.int .u32 (l[k].1 : Nat), str l[k].2] 75)
      have HUA := Lib.hid hUa
      have hD2 := ((HD.out.below hbr).below ((Below.refl _ wr).alloc (Nat.le_refl _) (.cells #[.int .u32 (l[k].1 : Nat), str l[k].2] 75)))
      have HI := Lib.hid (twin_inside hD2 at_ base l[k].1 hp1 hp3)
      have hs9 := hbr.size
      clear hnot hsn hU hUa hp2 hp3 hD2
      generalize l[k] = x at *
      obtain ⟨p, t⟩ := x
      dsimp only at *
      go_wp2_with fail
      refine HI.out.mono ?_
      rintro e w2 ⟨rfl, hw⟩
      subst w2
      obtain ⟨w3, hrun3, hU3, hg3⟩ := HUA.out.put Tryz.underlying26 Tryz.underlying4 Tryz.underlying96 (by unfold maxLen; omega) hp1
      have HU3 := Lib.hid hU3
      have hb3 := hb2.grown hg3 hb2.size (fun r e => by cases e; exact Nat.le_refl _)
      clear hU3 hg3 hb2
      go_wp2_with fail
      go_roundw
      case rel => exact ⟨k + 1, hmeas, by go_num, by rw [HSN.out]; exact HU3.out, hb3⟩
      case measure => simp [intOf]; omega
    · obtain rfl : k = l.length := by omega
      have d2 : decide (1 ≤ (l.length : Int)) = true := by rw [decide_eq_true_eq]; omega
      have d3 : decide ((l.length : Int) ≤ 8) = true := by rw [decide_eq_true_eq]; omega
      clear hU
      go_wp2_with fail
      go_ret
      exact ⟨rfl, hbr⟩
end Go.Proofs.YtbpjgdbkmnhnmaaGreat

/- The walks of package twin: Write. -/
namespace Go.Proofs.YtbpjgdbkmnhnmaaGreat
open Go.RowKit

namespace Sp
def areaOf (l : List (Nat × Bs)) : List (Nat × Bs) := l.zipIdx.map fun x => (x.2, x.1.2)
theorem areaOf_length (l : List (Nat × Bs)) : (areaOf l).length = l.length := by simp [areaOf]
theorem areaOf_get (l : List (Nat × Bs)) (k : Nat) (hk : k < l.length) : (areaOf l)[k]? = some (k, l[k].2) := by simp [areaOf, hk]
theorem areaOf_succ (l : List (Nat × Bs)) (k : Nat) (hk : k < l.length) : (areaOf l).take (k + 1) = (areaOf l).take k ++ [(k, l[k].2)] := by
  rw [List.take_add_one, areaOf_get l k hk]; rfl
def twinActs (at_ base : Nat) (l : List (Nat × Bs)) : List TAct :=
  ((homesActs (at_ + 1) (areaOf l) ++ [.sync]) ++ [.wr at_ (markBs l), .sync]) ++ (homesActs base l ++ [.sync]) ++ [.wr at_ (zeros 128), .sync]
end Sp

theorem home_info : (Tryz.prog.info? 75).map (fun i => (i.zero, i.size, i.bytes)) = some (some (.agg #[.int .u32 0, .string ⟨#[]⟩]), 2, 24) := by kernel_rfl

theorem IsAct.lt {G : Foot} {w : World} {g : Nat} {v : Value} {a : Sp.TAct} (h : IsAct G w g v a) : IsAct (fun b => G b ∧ b < w.heap.size) w g v a := by
  cases a with
  | sync => exact h
  | wr k s =>
    rcases h with ⟨b0, b1, b2, b3, p, t, j, e, ⟨g0, g1, g2, g3⟩, h0, h1, h2, h3, rest⟩ | ⟨b0, b1, b2, e, ⟨g0, g1, g2⟩, h0, h1, h2⟩
    · exact .inl ⟨b0, b1, b2, b3, p, t, j, e, ⟨⟨g0, h0.lt⟩, ⟨g1, h1.lt⟩, ⟨g2, h2.lt⟩, ⟨g3, h3.lt⟩⟩, h0, h1, h2, h3, rest⟩
    · exact .inr ⟨b0, b1, b2, e, ⟨⟨g0, h0.lt⟩, ⟨g1, h1.lt⟩, ⟨g2, h2.lt⟩⟩, h0, h1, h2⟩
theorem IsAct.one_ {G : Foot} {w : World} {g : Nat} {v : Value} {a : Sp.TAct} (h : IsAct G w g v a) : v.oneCell' = true := by
  cases a with
  | sync =>
    have e : v = _ := h
    rw [e]; rfl
  | wr k s => rcases h with ⟨b0, b1, b2, b3, p, t, j, rfl, _⟩ | ⟨b0, b1, b2, rfl, _⟩ <;> rfl
theorem IsActs.one_ {G : Foot} {w : World} {g : Nat} {fs : List Value} {as_ : List Sp.TAct} (h : IsActs G w g fs as_) : ∀ u ∈ fs, u.oneCell' = true := by
  intro u hu
  obtain ⟨i, hi, rfl⟩ := List.mem_iff_getElem.1 hu
  have hia : i < as_.length := by rw [← h.1]; exact hi
  exact (h.2 i _ _ (List.getElem?_eq_getElem hi) (List.getElem?_eq_getElem hia)).one_
theorem IsActs.lt {G : Foot} {w : World} {g : Nat} {fs : List Value} {as_ : List Sp.TAct} (h : IsActs G w g fs as_) : IsActs (fun b => G b ∧ b < w.heap.size) w g fs as_ := ⟨h.1, fun i v a hv ha => (h.2 i v a hv ha).lt⟩

theorem hcs_cells (l : List (Nat × Sp.Bs)) : ∀ u ∈ hcs l, u.oneCell' = true := by
  intro u hu
  unfold hcs at hu
  rw [List.mem_flatten] at hu
  obtain ⟨x, hx, hu⟩ := hu
  obtain ⟨y, _, rfl⟩ := List.mem_map.1 hx
  rcases List.mem_cons.1 hu with rfl | hu
  · rfl
  · rw [List.mem_singleton.1 hu]; rfl

theorem own_form' {w : World} {base e size n : Nat} {v : Value} {xs : List Value} (h : w.ownsRow base e size v n xs) (hn : 1 ≤ n) : ∃ g c, v = .slice (some ⟨g, 0, none⟩) n c := by
  rcases h.2 with ⟨_, h0⟩ | ⟨g, c, _, h0, _⟩
  · omega
  · exact ⟨g, c, h0⟩
theorem own_reads {w : World} {base e size n g c : Nat} {xs : List Value} (h : w.ownsRow base e size (.slice (some ⟨g, 0, none⟩) n c) n xs) : Reads (fun b => base ≤ b) w size (some ⟨g, 0, none⟩) n xs := by
  refine ⟨h.1, fun _ => ⟨g, 0, rfl, (h.lt g rfl).1, (h.lt g rfl).2, fun j u hu => ?_⟩⟩
  have := h.cells (g := g) rfl j u hu
  rw [show (⟨g, 0, none⟩ : Addr).add j = ⟨g, 0 + j, none⟩ by unfold Addr.add; split <;> simp_all] at this
  exact this
theorem own_below {w w' : World} {base e size n : Nat} {v : Value} {xs : List Value} (h : w.ownsRow base e size v n xs) (hb : Below w.heap.size w w') : w'.ownsRow base e size v n xs :=
  h.kept (row := none) ⟨hb.os, hb.tape, hb.output, hb.size, fun k hk _ => hb.block k hk⟩ (by cases v.ownBlock <;> simp)
theorem add_lit (b j : Nat) : (⟨b, 0, none⟩ : Addr).add j = ⟨b, j, none⟩ := by unfold Addr.add; split <;> simp_all

theorem Reads.lt {G : Foot} {w : World} {size n : Nat} {A : Option Addr} {xs : List Value} (h : Reads G w size A n xs) : Reads (fun b => G b ∧ b < w.heap.size) w size A n xs :=
  ⟨h.1, fun hn => by
    obtain ⟨b, o, e, hG, hb, hc⟩ := h.2 hn
    exact ⟨b, o, e, ⟨hG, hb⟩, hb, hc⟩⟩

theorem Sp.homesActs_ok {n base : Nat} {l : List (Nat × Sp.Bs)} (h : ∀ x ∈ l, base + x.1 * 4 + 4 ≤ n ∧ x.2.length = 512) : ∀ a ∈ Sp.homesActs base l, a.ok n := by
  intro a ha
  unfold Sp.homesActs at ha
  rw [List.mem_flatten] at ha
  obtain ⟨y, hy, ha⟩ := ha
  obtain ⟨x, hx, rfl⟩ := List.mem_map.1 hy
  obtain ⟨j, hj, rfl⟩ := List.mem_map.1 ha
  have hj' := List.mem_range.1 hj
  obtain ⟨h1, h2⟩ := h x hx
  refine ⟨by omega, ?_⟩
  rw [List.length_take, List.length_drop]; omega

theorem Sp.areaOf_mem {l : List (Nat × Sp.Bs)} {x : Nat × Sp.Bs} (h : x ∈ Sp.areaOf l) : x.1 < l.length ∧ ∃ y ∈ l, x.2 = y.2 := by
  obtain ⟨k, hk, rfl⟩ := List.mem_iff_getElem.1 h
  have hk' : k < l.length := by rw [Sp.areaOf_length] at hk; exact hk
  have e := Sp.areaOf_get l k hk'
  rw [List.getElem?_eq_getElem hk, Option.some.injEq] at e
  rw [e]
  exact ⟨hk', l[k], List.getElem_mem hk', rfl⟩

theorem Sp.twinActs_ok {n at_ base : Nat} {l : List (Nat × Sp.Bs)} (h8 : l.length ≤ 8) (hp : ∀ x ∈ l, x.2.length = 512 ∧ Sp.inside n at_ base x.1) (ha : at_ + 33 ≤ n) : ∀ a ∈ Sp.twinActs at_ base l, a.ok n := by
  intro a h
  unfold Sp.twinActs at h
  have hs : Sp.TAct.ok n .sync := trivial
  have hm : Sp.TAct.ok n (.wr at_ (Sp.markBs l)) := ⟨by omega, Sp.markBs_length h8⟩
  have hz : Sp.TAct.ok n (.wr at_ (Sp.zeros 128)) := ⟨by omega, by simp [Sp.zeros]⟩
  have h1 := Sp.homesActs_ok (n := n) (base := at_ + 1) (l := Sp.areaOf l) (fun x hx => by
    obtain ⟨e1, y, hy, e2⟩ := Sp.areaOf_mem hx
    exact ⟨by omega, by rw [e2]; exact (hp y hy).1⟩)
  have h2 := Sp.homesActs_ok (n := n) (base := base) (l := l) (fun x hx => ⟨(hp x hx).2.1, (hp x hx).1⟩)
  simp only [List.mem_append, List.mem_cons, List.not_mem_nil, or_false] at h
  rcases h with (((h | rfl) | (rfl | rfl)) | (h | rfl)) | (rfl | rfl)
  · exact h1 a h
  · exact hs
  · exact hm
  · exact hs
  · exact h2 a h
  · exact hs
  · exact hz
  · exact hs
theorem Sp.twinActs_length (at_ base : Nat) (l : List (Nat × Sp.Bs)) : (Sp.twinActs at_ base l).length = l.length * 8 + 6 := by
  simp only [Sp.twinActs, List.length_append, Sp.homesActs_length, Sp.areaOf_length, List.length_cons, List.length_nil]
  omega

set_option maxRecDepth 100000 in
set_option maxHeartbeats 8000000 in
theorem twin_write {F G : Foot} {w : World} {g : Nat} {d : Sp.Dk} (h : IsDk F w g d) (hf : d.fuse = -1) (hlo : d.loose.length ≤ 1000) (at_ base : Nat) {A : Option Addr} {c : Nat} {l : List (Nat × Sp.Bs)} (hR : Reads G w 2 A l.length (hcs l)) (h1 : 1 ≤ l.length) (h8 : l.length ≤ 8)
    (hp : ∀ x ∈ l, x.1 < 4294967296 ∧ x.2.length = 512 ∧ Sp.inside d.sure.length at_ base x.1) (hn : (l.map (·.1)).Nodup) (ha : at_ + 33 ≤ d.sure.length) (hb : base ≤ d.sure.length) :
    Calls Tryz.prog 31 #[ptr g, .int .i64 at_, .int .i64 base, .slice A l.length c] w (ActPost F w g (d.acts (Sp.twinActs at_ base l))) := by
  obtain ⟨i0, hi, hz0, hz1, hz2⟩ := info_parts fn_info
  obtain ⟨j0, hj, hy0, hy1, hy2⟩ := info_parts home_info
  have hfew := h.wf.few
  have HPL := Lib.hid (twin_placed h at_ base ha hb)
  have HMY := Lib.hid (twin_may h at_ base hR h1 h8 (c := c) hp hn)
  have HR := Lib.hid hR
  have HP := Lib.hid hp
  have HD := Lib.hid h
  have HF := Lib.hid hf
  have HIN := Lib.hid h.in_
  clear h hf hR hp hn
  go_enter Tryz.func31, Tryz.ntmps31
  go_wp2_with fail
  refine HPL.out.mono ?_
  rintro e w1 ⟨rfl, hw⟩
  subst w1
  go_wp2_with fail
  refine HMY.out.mono ?_
  rintro e w1 ⟨rfl, hb1⟩
  have hs1 := hb1.size
  go_wp2_with fail
  go_loopw [10, 11, 12, 29] (fun v _ _ i wr => ∃ k : Nat, k ≤ l.length ∧ i = .int .i64 k ∧ wr.ownsRow w1.heap.size 75 2 v k (hcs ((Sp.areaOf l).take k)) ∧ Below w.heap.size w wr ∧ w1.heap.size ≤ wr.heap.size) (fun _ _ _ i _ => l.length - (intOf i).toNat)
  case atStart => exact ⟨0, by omega, rfl, by simpa [hcs] using World.ownsRow_nil _ _ _ _, hb1, Nat.le_refl _⟩
  case round =>
    obtain ⟨k, hk, rfl, hO, hbr, hsr⟩ := hrel
    by_cases hlt : k < l.length
    · obtain ⟨b, o, rfl, _, _, r0, r1⟩ := (Reads.below HR.out hbr).home hlt
      have hsn : hcs ((Sp.areaOf l).take (k + 1)) = hcs ((Sp.areaOf l).take k) ++ [.int .u32 (k : Nat), str l[k].2] := by
        rw [Sp.areaOf_succ l k hlt, hcs_app]; rfl
      have HSN := Lib.hid hsn
      have hmeas : k + 1 ≤ l.length := hlt
      clear hsn
      generalize l[k] = x at *
      obtain ⟨p, t⟩ := x
      dsimp only at *
      have HO := Lib.hid ((hO.alloc (.cells #[.int .u32 (p : Nat), str t] 75)).alloc (.cells #[.int .u32 (k : Nat), str t] 75))
      have hbr2 := (hbr.alloc hbr.size (.cells #[.int .u32 (p : Nat), str t] 75)).alloc (by have := hbr.size; simp; omega) (.cells #[.int .u32 (k : Nat), str t] 75)
      have hs9 := hbr.size
      have hnews : Hid (∀ j u, [Value.int .u32 (k : Nat), str t][j]? = some u → ((wr.alloc (.cells #[.int .u32 (p : Nat), str t] 75)).alloc (.cells #[.int .u32 (k : Nat), str t] 75)).cell? ((⟨wr.heap.size + 1, 0, none⟩ : Addr).add j) = some u) := fun j u hu => by
        rw [show (⟨wr.heap.size + 1, 0, none⟩ : Addr).add j = ⟨wr.heap.size + 1, j, none⟩ by unfold Addr.add; split <;> simp_all]
        have := (Blk.new (wr.alloc (.cells #[.int .u32 (p : Nat), str t] 75)) 75 #[.int .u32 (k : Nat), str t]).cell j
        rw [World.size_alloc] at this
        rw [this]
        simpa using hu
      clear hO
      go_wp2_with (at_builtin; refine wpList_append_own _ rfl _ _ 126 rfl w1.heap.size 75 j0 (.agg #[.int .u32 0, .string ⟨#[]⟩]) 2 24 Tryz.underlying126 hj hy0 hy1 hy2 rfl (by decide) _ _ _ rfl HO.out ⟨wr.heap.size + 1, 0, none⟩ 1 1 [.int .u32 (k : Nat), str t] rfl rfl hnews.out (fun x hx => by simp at hx; rcases hx with rfl | rfl <;> rfl) (by unfold maxLen; omega) (by omega) (by simp; omega) ?_)
      intro v' w6 hown hgrow hnil
      have hb6 := hbr2.grown hgrow hbr2.size (fun r e => Nat.le_trans hs1 (HO.out.lt r e).1)
      have hs6 : w1.heap.size ≤ w6.heap.size := by have := hgrow.size; simp at this; omega
      have HW := Lib.hid hown
      obtain ⟨g7, c7, rfl⟩ := own_form hown
      clear hnil hown hgrow
      go_wp2_with fail
      go_roundw
      case rel => exact ⟨k + 1, hmeas, by go_num, by rw [HSN.out]; exact HW.out, hb6, hs6⟩
      case measure => simp [intOf]; omega
    · obtain rfl : k = l.length := by omega
      rw [List.take_of_length_le (by rw [Sp.areaOf_length]; exact Nat.le_refl _)] at hO
      obtain ⟨ga, ca, rfl⟩ := own_form' hO h1
      have hra := own_reads hO
      rw [← Sp.areaOf_length l] at hra
      have hlz := Sp.areaOf_length l
      have hpa : ∀ x ∈ Sp.areaOf l, x.1 < 4294967296 ∧ x.2.length = 512 := by
        intro x hx
        obtain ⟨k, hk, rfl⟩ := List.mem_iff_getElem.1 hx
        have hk' : k < l.length := by omega
        have e := Sp.areaOf_get l k hk'
        rw [List.getElem?_eq_getElem hk, Option.some.injEq] at e
        rw [e]
        exact ⟨by show k < _; omega, (HP.out _ (List.getElem_mem hk')).2.1⟩
      have hh1 := twin_homes g (at_ + 1) hra (by omega) hpa (by omega) (c := ca)
      rw [show ((at_ + 1 : Nat) : Int) = (at_ : Int) + 1 by omega, hlz] at hh1
      have HH1 := Lib.hid hh1
      clear hh1 hra hpa hlz hO
      go_wp2_with fail
      refine HH1.out.mono ?_
      rintro e wa ⟨v1, fs1, rfl, hO1, hA1, hba⟩
      obtain ⟨g1, c1, rfl⟩ := own_form' hO1 (by omega)
      have hbwa : Below w.heap.size w wa := hbr.trans (hba.mono hbr.size)
      have hsa := hba.size
      have hsw := hbr.size
      have HO1 := Lib.hid hO1
      have HA1 := Lib.hid hA1
      clear hO1 hA1
      go_wp2_with fail
      refine (twin_mark (Reads.below HR.out hbwa) h8 (fun x hx => (HP.out x hx).1)).mono ?_
      rintro e wb ⟨rfl, hbb⟩
      have hbwb : Below w.heap.size w wb := hbwa.trans (hbb.mono hbwa.size)
      have hsb := hbb.size
      have HO2 := Lib.hid (own_below HO1.out hbb)
      have HA2 := Lib.hid (HA1.out.below hbb)
      clear HO1 HA1
      go_wp2_with fail
      refine (twin_marks g at_ (Sp.markBs l)).mono ?_
      rintro e wc ⟨b2, c2, fs2, rfl, hb2, hB2, hl2, hone2, hA2, hbc⟩
      have hbwc : Below w.heap.size w wc := hbwb.trans (hbc.mono hbwb.size)
      have hsc := hbc.size
      have HO3 := Lib.hid (own_below HO2.out hbc)
      have HA3 := Lib.hid ((HA2.out.below hbc).mono (G' := fun b => w.heap.size ≤ b) (fun b (hb : wr.heap.size ≤ b) => Nat.le_trans hsw hb))
      have HA4 := Lib.hid (hA2.mono (G' := fun b => w.heap.size ≤ b) (fun b (hb : wb.heap.size ≤ b) => by show w.heap.size ≤ b; omega))
      have hn2 : Hid (∀ j u, fs2[j]? = some u → wc.cell? ((⟨b2, 0, none⟩ : Addr).add j) = some u) := fun j u hu => by
        rw [add_lit, hB2.cell j]; simpa using hu
      have ho2 := Lib.hid hone2
      have hl2' := Lib.hid hl2
      clear HO2 HA2 hA2 hone2 hB2 hl2
      go_wp2_with (at_builtin; refine wpList_append_own _ rfl _ _ 129 rfl wr.heap.size 110 i0 .nilFunc 1 8 Tryz.underlying129 hi hz0 hz1 hz2 rfl (by decide) _ _ _ rfl HO3.out ⟨b2, 0, none⟩ 2 c2 fs2 rfl hl2'.out hn2.out ho2.out (by unfold maxLen; omega) (by omega) (by omega) ?_)
      intro v4 wd hown4 hgrow4 _
      have HA5 := Lib.hid ((HA3.out.grown hgrow4 (own_blk HO3.out)).app (HA4.out.grown hgrow4 (own_blk HO3.out)))
      have hbwd : Below w.heap.size w wd := hbwc.grown hgrow4 hbwc.size (fun r e => Nat.le_trans hsw (HO3.out.lt r e).1)
      have hsd := hgrow4.size
      have HO4 := Lib.hid hown4
      obtain ⟨g4, c4, rfl⟩ := own_form' hown4 (by omega)
      clear hown4 hgrow4 HA3 HA4 HO3 hn2 ho2 hl2'
      have HH2 := Lib.hid (twin_homes g base (Reads.below HR.out hbwd) (by omega) (fun x hx => ⟨(HP.out x hx).1, (HP.out x hx).2.1⟩) (by omega) (c := c))
      go_wp2_with fail
      refine HH2.out.mono ?_
      rintro e we ⟨v5, fs5, rfl, hO5, hA5, hbe⟩
      obtain ⟨g5, c5, rfl⟩ := own_form' hO5 (by omega)
      have hbwe : Below w.heap.size w we := hbwd.trans (hbe.mono hbwd.size)
      have hse := hbe.size
      have HO6 := Lib.hid (own_below HO4.out hbe)
      have HA6 := Lib.hid (HA5.out.below hbe)
      have HA7 := Lib.hid (hA5.mono (G' := fun b => w.heap.size ≤ b) (fun b (hb : wd.heap.size ≤ b) => by show w.heap.size ≤ b; omega))
      have hl5 := Lib.hid hO5.1
      have hn5 : Hid (∀ j u, fs5[j]? = some u → we.cell? ((⟨g5, 0, none⟩ : Addr).add j) = some u) := hO5.cells (g := g5) rfl
      have ho5 := Lib.hid hA5.one_
      clear HO4 HA5 hO5 hA5 HH2
      go_wp2_with (at_builtin; refine wpList_append_own _ rfl _ _ 129 rfl wr.heap.size 110 i0 .nilFunc 1 8 Tryz.underlying129 hi hz0 hz1 hz2 rfl (by decide) _ _ _ rfl HO6.out ⟨g5, 0, none⟩ (l.length * 4 + 1) c5 fs5 rfl hl5.out hn5.out ho5.out (by unfold maxLen; omega) (by omega) (by omega) ?_)
      intro v6 wf hown6 hgrow6 _
      have HA8 := Lib.hid ((HA6.out.grown hgrow6 (own_blk HO6.out)).app (HA7.out.grown hgrow6 (own_blk HO6.out)))
      have hbwf : Below w.heap.size w wf := hbwe.grown hgrow6 hbwe.size (fun r e => Nat.le_trans hsw (HO6.out.lt r e).1)
      have hsf := hgrow6.size
      have HO8 := Lib.hid hown6
      obtain ⟨g6, c6, rfl⟩ := own_form' hown6 (by omega)
      clear hown6 hgrow6 HA6 HA7 HO6 hn5 ho5 hl5
      go_wp2_with fail
      refine (twin_clear _).mono ?_
      rintro e wg ⟨rfl, hbg⟩
      have hbwg : Below w.heap.size w wg := hbwf.trans (hbg.mono hbwf.size)
      have hsg := hbg.size
      have HO9 := Lib.hid (own_below HO8.out hbg)
      have HA9 := Lib.hid (HA8.out.below hbg)
      clear HO8 HA8
      go_wp2_with fail
      refine (twin_marks g at_ (Sp.zeros 128)).mono ?_
      rintro e wh ⟨b7, c7, fs7, rfl, hb7, hB7, hl7, hone7, hA7, hbh⟩
      have hbwh : Below w.heap.size w wh := hbwg.trans (hbh.mono hbwg.size)
      have hsh := hbh.size
      have HO10 := Lib.hid (own_below HO9.out hbh)
      have HA10 := Lib.hid (HA9.out.below hbh)
      have HA11 := Lib.hid (hA7.mono (G' := fun b => w.heap.size ≤ b) (fun b (hb : wg.heap.size ≤ b) => by show w.heap.size ≤ b; omega))
      have hn7 : Hid (∀ j u, fs7[j]? = some u → wh.cell? ((⟨b7, 0, none⟩ : Addr).add j) = some u) := fun j u hu => by
        rw [add_lit, hB7.cell j]; simpa using hu
      have ho7 := Lib.hid hone7
      have hl7' := Lib.hid hl7
      clear HO9 HA9 hA7 hone7 hB7 hl7
      go_wp2_with (at_builtin; refine wpList_append_own _ rfl _ _ 129 rfl wr.heap.size 110 i0 .nilFunc 1 8 Tryz.underlying129 hi hz0 hz1 hz2 rfl (by decide) _ _ _ rfl HO10.out ⟨b7, 0, none⟩ 2 c7 fs7 rfl hl7'.out hn7.out ho7.out (by unfold maxLen; omega) (by omega) (by omega) ?_)
      intro v8 wi hown8 hgrow8 _
      have hA12 := ((HA10.out.grown hgrow8 (own_blk HO10.out)).app (HA11.out.grown hgrow8 (own_blk HO10.out))).lt
      have hbwi : Below w.heap.size w wi := hbwh.grown hgrow8 hbwh.size (fun r e => Nat.le_trans hsw (HO10.out.lt r e).1)
      have hEQ : ((Sp.homesActs (at_ + 1) (Sp.areaOf l) ++ [.sync]) ++ [.wr at_ (Sp.markBs l), .sync]) ++ (Sp.homesActs base l ++ [.sync]) ++ [.wr at_ (Sp.zeros 128), .sync] = Sp.twinActs at_ base l := rfl
      rw [hEQ] at hA12
      simp only [List.append_assoc] at hA12 hown8
      clear hEQ
      have hlen8 := hown8.1
      obtain ⟨g8, c8, rfl⟩ := own_form' hown8 (by omega)
      have hr8 := (own_reads hown8).lt.mono (G' := fun b => w.heap.size ≤ b ∧ b < wi.heap.size) (fun b (hb : wr.heap.size ≤ b ∧ b < wi.heap.size) => ⟨Nat.le_trans hsw hb.1, hb.2⟩)
      have hD8 : IsDk F wi g d := HD.out.keep (fun b hb => hbwi.block b (HIN.out b hb))
      rw [Nat.mul_one] at hlen8
      rw [← hlen8] at hr8
      have hst := twin_steps hD8 HF.out (c := c8) hr8 hA12 (fun b hb => ⟨hb.2, fun hF => by have := HIN.out b hF; have := hb.1; omega⟩) (Sp.twinActs_ok h8 (fun x hx => (HP.out x hx).2) ha) (by
        have := Sp.twinActs_length at_ base l
        omega)
      rw [hlen8] at hst
      have hT8 : Turns F F w wi := ⟨hbwi.os, hbwi.tape, hbwi.output, hbwi.size, fun b hb _ => hbwi.block b hb, fun _ hb => .inl hb⟩
      have HST := Lib.hid hst
      have HT8 := Lib.hid hT8
      clear hst hr8 hD8 hA12 hown8 hgrow8 hT8 hlen8
      go_wp2_with fail
      refine HST.out.mono ?_
      rintro e wj ⟨F', rfl, hDj, htj⟩
      have HDJ := Lib.hid hDj
      have HTJ := Lib.hid (HT8.out.trans htj)
      clear hDj htj
      go_wp2_with fail
      go_ret
      exact ⟨F', rfl, HDJ.out, HTJ.out⟩
end Go.Proofs.YtbpjgdbkmnhnmaaGreat

/- Plain laws on what twin.Write leaves on a disk. -/
namespace Go.Proofs.YtbpjgdbkmnhnmaaGreat
open Go.RowKit
namespace Sp

def wrs : List TAct → List (Nat × Bs)
  | [] => []
  | .wr k s :: l => (k, s) :: wrs l
  | .sync :: l => wrs l
theorem wrs_app : ∀ (a b : List TAct), wrs (a ++ b) = wrs a ++ wrs b
  | [], _ => rfl
  | .wr k s :: a, b => by simp [wrs, wrs_app a b]
  | .sync :: a, b => by simp [wrs, wrs_app a b]

theorem view_put (d : Dk) (k : Nat) (s : Bs) : (d.put k s).view = lay [(k, s)] d.view := by simp [Dk.put, Dk.view, lay_append]
theorem view_synced (d : Dk) : d.synced.view = d.view := by simp [Dk.synced, Dk.view, lay]
theorem view_acts (d : Dk) : ∀ l, (d.acts l).view = lay (wrs l) d.view := fun l => by
  induction l generalizing d with
  | nil => rfl
  | cons a l ih =>
    show (Dk.acts (d.act a) l).view = _
    rw [ih]
    cases a with
    | wr k s => simp only [Dk.act, view_put, wrs]; rfl
    | sync => simp only [Dk.act, view_synced, wrs]
/-- behind a list that ends with a Sync. -/
theorem acts_synced (d : Dk) (l : List TAct) : (d.acts (l ++ [.sync])).loose = [] ∧ (d.acts (l ++ [.sync])).sure = lay (wrs l) d.view := by
  rw [acts_snoc]
  exact ⟨rfl, view_acts d l⟩

theorem lay_other : ∀ (l : List (Nat × Bs)) (s : List Bs) (k : Nat), (∀ x ∈ l, x.1 ≠ k) → (lay l s)[k]? = s[k]?
  | [], _, _, _ => rfl
  | x :: l, s, k, h => by
    show (lay l (s.set x.1 x.2))[k]? = _
    rw [lay_other l _ k (fun y hy => h y (List.mem_cons_of_mem _ hy)), List.getElem?_set_ne (h x (List.mem_cons_self))]
/-- read where the last that is written there says t. -/
theorem lay_at (a b : List (Nat × Bs)) (s : List Bs) (k : Nat) (t : Bs) (hk : k < s.length) (hb : ∀ x ∈ b, x.1 ≠ k) : (lay (a ++ (k, t) :: b) s)[k]? = some t := by
  rw [lay_append]
  show (lay b ((lay a s).set k t))[k]? = _
  rw [lay_other b _ k hb, List.getElem?_set_self (by simpa using hk)]

theorem wrs_home (base : Nat) (x : Nat × Bs) : wrs (homeActs base x) = (List.range 4).map fun j => (base + x.1 * 4 + j, (x.2.drop (j * 128)).take 128) := rfl
theorem wrs_homes (base : Nat) : ∀ l, wrs (homesActs base l) = (l.map fun x => (List.range 4).map fun j => (base + x.1 * 4 + j, (x.2.drop (j * 128)).take 128)).flatten
  | [] => rfl
  | x :: l => by
    show wrs (homeActs base x ++ homesActs base l) = _
    rw [wrs_app, wrs_home, wrs_homes base l]; rfl
theorem mem_wrs_homes {base : Nat} {l : List (Nat × Bs)} {y : Nat × Bs} (h : y ∈ wrs (homesActs base l)) : ∃ x ∈ l, ∃ j, j < 4 ∧ y.1 = base + x.1 * 4 + j := by
  rw [wrs_homes] at h
  obtain ⟨z, hz, hy⟩ := List.mem_flatten.1 h
  obtain ⟨x, hx, rfl⟩ := List.mem_map.1 hz
  obtain ⟨j, hj, rfl⟩ := List.mem_map.1 hy
  exact ⟨x, hx, j, List.mem_range.1 hj, rfl⟩

theorem range4 {α : Type} (f : Nat → α) : (List.range 4).map f = [f 0, f 1, f 2, f 3] := rfl

/-- One page written: the disk behind it. -/
theorem twin_one (d : Dk) (hlo : d.loose = []) (hf : d.fuse = -1) (at_ base p : Nat) (t : Bs) (ht : t.length = 512) (hin : inside d.sure.length at_ base p) :
    (d.acts (twinActs at_ base [(p, t)])).loose = [] ∧ (d.acts (twinActs at_ base [(p, t)])).fuse = -1 ∧ (d.acts (twinActs at_ base [(p, t)])).sure.length = d.sure.length ∧
    pageAt (d.acts (twinActs at_ base [(p, t)])).sure (base + p * 4) = t ∧
    ∀ q, q ≠ p → at_ + 33 ≤ base + q * 4 → base + q * 4 + 4 ≤ d.sure.length → pageAt (d.acts (twinActs at_ base [(p, t)])).sure (base + q * 4) = pageAt d.sure (base + q * 4) := by
  obtain ⟨hi1, hi2⟩ := hin
  have hview : d.view = d.sure := by simp [Dk.view, hlo, lay]
  have hw : ∃ a c, twinActs at_ base [(p, t)] = (a ++ homesActs base [(p, t)] ++ c) ++ [.sync] ∧ (∀ x ∈ wrs a, x.1 < at_ + 33) ∧ (∀ x ∈ wrs c, x.1 < at_ + 33) := by
    refine ⟨(homesActs (at_ + 1) (areaOf [(p, t)]) ++ [.sync]) ++ [.wr at_ (markBs [(p, t)]), .sync], [.sync, .wr at_ (zeros 128)], by simp [twinActs], fun x hx => ?_, fun x hx => ?_⟩
    · rw [wrs_app, wrs_app] at hx
      simp only [wrs, List.append_nil, List.mem_append, List.mem_singleton] at hx
      rcases hx with hx | rfl
      · obtain ⟨y, hy, j, hj, e⟩ := mem_wrs_homes hx
        have : y.1 = 0 := by
          simp [areaOf] at hy
          rw [hy]
        omega
      · show at_ < at_ + 33; omega
    · simp [wrs] at hx
      rw [hx]; show at_ < at_ + 33; omega
  obtain ⟨a, c, hw, ha, hc⟩ := hw
  have hs := acts_synced d (a ++ homesActs base [(p, t)] ++ c)
  rw [← hw, hview, wrs_app, wrs_app] at hs
  have hlen := acts_sure d (twinActs at_ base [(p, t)])
  have hh : wrs (homesActs base [(p, t)]) = [(base + p * 4 + 0, (t.drop 0).take 128), (base + p * 4 + 1, (t.drop 128).take 128), (base + p * 4 + 2, (t.drop 256).take 128), (base + p * 4 + 3, (t.drop 384).take 128)] := by
    rw [wrs_homes]; rfl
  refine ⟨hs.1, acts_fuse d hf _, hlen, ?_, fun q hq h1 h2 => ?_⟩
  · rw [hs.2, hh]
    generalize hL : lay (wrs a ++ [(base + p * 4 + 0, (t.drop 0).take 128), (base + p * 4 + 1, (t.drop 128).take 128), (base + p * 4 + 2, (t.drop 256).take 128), (base + p * 4 + 3, (t.drop 384).take 128)] ++ wrs c) d.sure = L
    have g0 : L[base + p * 4 + 0]? = some ((t.drop 0).take 128) := by
      rw [← hL]
      have := lay_at (wrs a) ([(base + p * 4 + 1, (t.drop 128).take 128), (base + p * 4 + 2, (t.drop 256).take 128), (base + p * 4 + 3, (t.drop 384).take 128)] ++ wrs c) d.sure (base + p * 4 + 0) ((t.drop 0).take 128) (by omega) (fun x hx => by
        rcases List.mem_append.1 hx with hx | hx
        · simp at hx; rcases hx with rfl | rfl | rfl <;> simp
        · have := hc x hx; omega)
      simpa using this
    have g1 : L[base + p * 4 + 1]? = some ((t.drop 128).take 128) := by
      rw [← hL]
      have := lay_at (wrs a ++ [(base + p * 4 + 0, (t.drop 0).take 128)]) ([(base + p * 4 + 2, (t.drop 256).take 128), (base + p * 4 + 3, (t.drop 384).take 128)] ++ wrs c) d.sure (base + p * 4 + 1) ((t.drop 128).take 128) (by omega) (fun x hx => by
        rcases List.mem_append.1 hx with hx | hx
        · simp at hx; rcases hx with rfl | rfl <;> simp
        · have := hc x hx; omega)
      simpa using this
    have g2 : L[base + p * 4 + 2]? = some ((t.drop 256).take 128) := by
      rw [← hL]
      have := lay_at (wrs a ++ [(base + p * 4 + 0, (t.drop 0).take 128), (base + p * 4 + 1, (t.drop 128).take 128)]) ([(base + p * 4 + 3, (t.drop 384).take 128)] ++ wrs c) d.sure (base + p * 4 + 2) ((t.drop 256).take 128) (by omega) (fun x hx => by
        rcases List.mem_append.1 hx with hx | hx
        · simp at hx; rw [hx]; simp
        · have := hc x hx; omega)
      simpa using this
    have g3 : L[base + p * 4 + 3]? = some ((t.drop 384).take 128) := by
      rw [← hL]
      have := lay_at (wrs a ++ [(base + p * 4 + 0, (t.drop 0).take 128), (base + p * 4 + 1, (t.drop 128).take 128), (base + p * 4 + 2, (t.drop 256).take 128)]) (wrs c) d.sure (base + p * 4 + 3) ((t.drop 384).take 128) (by omega) (fun x hx => by have := hc x hx; omega)
      simpa using this
    have hd : (L.drop (base + p * 4)).take 4 = [(t.drop 0).take 128, (t.drop 128).take 128, (t.drop 256).take 128, (t.drop 384).take 128] := by
      apply List.ext_getElem?
      intro k
      rw [List.getElem?_take]
      match k with
      | 0 => simpa using g0
      | 1 => simpa using g1
      | 2 => simpa using g2
      | 3 => simpa using g3
      | k + 4 =>
        rw [if_neg (by omega)]
        simp
    unfold pageAt
    rw [hd]
    simp only [List.flatten_cons, List.flatten_nil, List.append_nil, List.drop_zero]
    have e3 : (t.drop 384).take 128 = t.drop 384 := List.take_of_length_le (by simp; omega)
    have e2 : (t.drop 256).take 128 ++ t.drop 384 = t.drop 256 := by
      have := List.take_append_drop 128 (t.drop 256); rwa [List.drop_drop] at this
    have e1 : (t.drop 128).take 128 ++ t.drop 256 = t.drop 128 := by
      have := List.take_append_drop 128 (t.drop 128); rwa [List.drop_drop] at this
    rw [e3, e2, e1, List.take_append_drop]
  · rw [hs.2]
    unfold pageAt
    congr 1
    apply List.ext_getElem?
    intro k
    rw [List.getElem?_take, List.getElem?_take]
    split
    · rename_i hk
      rw [List.getElem?_drop, List.getElem?_drop]
      refine lay_other _ _ _ (fun x hx => ?_)
      rw [hh] at hx
      rcases List.mem_append.1 hx with hx | hx
      · rcases List.mem_append.1 hx with hx | hx
        · have := ha x hx; omega
        · simp at hx
          rcases hx with rfl | rfl | rfl | rfl <;> simp <;> omega
      · have := hc x hx; omega
    · rfl
end Sp
end Go.Proofs.YtbpjgdbkmnhnmaaGreat

/- The walks of package log: may, New. -/
namespace Go.Proofs.YtbpjgdbkmnhnmaaGreat
open Go.RowKit

set_option maxRecDepth 100000 in
set_option maxHeartbeats 2000000 in
theorem log_may {F : Foot} {w : World} {g : Nat} {d : Sp.Dk} (h : IsDk F w g d) (at_ n life : Nat) (h1 : 4 ≤ n) (h2 : n ≤ 4096) (h3 : at_ + n ≤ d.sure.length) (h4 : 1 ≤ life) :
    Calls Tryz.prog 79 #[ptr g, .int .i64 at_, .int .i64 n, .int .u64 life] w fun e w' => e = .returned (.int .i64 0) ∧ w' = w := by
  have hfew := h.wf.few
  have HL := Lib.hid (disk_len h)
  have d1 : decide ((at_ : Int) < 0) = false := by simp
  have d2 : decide ((n : Int) < 4) = false := by rw [decide_eq_false_iff_not]; omega
  have d3 : decide ((4096 : Int) < n) = false := by rw [decide_eq_false_iff_not]; omega
  have d4 : decide ((d.sure.length : Int) - n < at_) = false := by rw [decide_eq_false_iff_not]; omega
  have d5 : ((life : Int) == 0) = false := by simp; omega
  clear h
  go_enter Tryz.func79, Tryz.ntmps79
  go_wp2_with fail
  refine HL.out.mono ?_
  rintro e w1 ⟨rfl, hw⟩
  subst w1
  go_wp2_with fail
  go_ret
  exact ⟨rfl, rfl⟩

/-- The struct of a log. -/
abbrev lgCells (g at_ n life : Nat) (bv sv : Value) (first next forced reserved : Nat) : Array Value :=
  #[ptr g, .int .i64 at_, .int .i64 n, .int .u64 life, bv, sv, .int .u64 first, .int .u64 next, .int .u64 forced, .int .i64 reserved]

set_option maxRecDepth 100000 in
set_option maxHeartbeats 2000000 in
theorem log_new {F : Foot} {w : World} {g : Nat} {d : Sp.Dk} (h : IsDk F w g d) (at_ n life : Nat) (h1 : 4 ≤ n) (h2 : n ≤ 4096) (h3 : at_ + n ≤ d.sure.length) (h4 : 1 ≤ life) :
    Calls Tryz.prog 32 #[ptr g, .int .i64 at_, .int .i64 n, .int .u64 life] w fun e w' => e = .returned (.tuple #[ptr w.heap.size, .int .i64 0]) ∧
      w' = w.alloc (.cells (lgCells g at_ n life (.slice none 0 0) (.slice none 0 0) 110 110 110 0) 108) := by
  have HL := Lib.hid (log_may h at_ n life h1 h2 h3 h4)
  clear h
  go_enter Tryz.func32, Tryz.ntmps32
  go_wp2_with fail
  refine HL.out.mono ?_
  rintro e w1 ⟨rfl, hw⟩
  subst w1
  go_wp2_with fail
  go_ret2
  exact ⟨rfl, rfl⟩
end Go.Proofs.YtbpjgdbkmnhnmaaGreat
