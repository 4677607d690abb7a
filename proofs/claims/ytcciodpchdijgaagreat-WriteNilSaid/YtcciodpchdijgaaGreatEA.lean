/- An evaluator for closed runs: its values, its memory, its operations. -/
import GoSem.Dispatch
set_option linter.constructorNameAsVariable false
set_option linter.unusedVariables false
set_option linter.unusedSimpArgs false
namespace Ev
noncomputable section
open Go

inductive Ps where
  | h | o (p : Ps) | i (p : Ps)
  deriving Inhabited, Repr, DecidableEq
def Ps.succ : Ps → Ps
  | .h => .o .h | .o p => .i p | .i p => .o p.succ
def Ps.ofN : Nat → Nat → Ps
  | 0, _ => .h
  | f + 1, n => match Nat.ble n 1 with
    | true => .h
    | false => match Nat.beq (Nat.mod n 2) 0 with
      | true => .o (Ps.ofN f (Nat.div n 2))
      | false => .i (Ps.ofN f (Nat.div n 2))
def tp (t : Nat) : Ps := Ps.ofN 40 (t + 1)
def Ps.eqN : Ps → Ps → Bool
  | .h, .h => true | .o p, .o q => Ps.eqN p q | .i p, .i q => Ps.eqN p q | _, _ => false

inductive Tr (α : Type) where
  | e | n (v : α) (l r : Tr α)
  deriving Inhabited
section
variable {α : Type}
def Tr.getN (d : α) : Ps → Tr α → α
  | _, .e => d
  | .h, .n v _ _ => v
  | .o p, .n _ l _ => Tr.getN d p l
  | .i p, .n _ _ r => Tr.getN d p r
def Tr.setN (d x : α) : Ps → Tr α → Tr α
  | .h, .e => .n x .e .e
  | .o p, .e => .n d (Tr.setN d x p .e) .e
  | .i p, .e => .n d .e (Tr.setN d x p .e)
  | .h, .n _ l r => .n x l r
  | .o p, .n v l r => .n v (Tr.setN d x p l) r
  | .i p, .n v l r => .n v l (Tr.setN d x p r)
def Tr.get (d : α) (p : Ps) : Tr α → α :=
  Ps.rec (motive := fun _ => Tr α → α)
    (fun t => Tr.rec (motive := fun _ => α) d (fun v _ _ _ _ => v) t)
    (fun _ ih t => Tr.rec (motive := fun _ => α) d (fun _ l _ _ _ => ih l) t)
    (fun _ ih t => Tr.rec (motive := fun _ => α) d (fun _ _ r _ _ => ih r) t) p
def Tr.set (d x : α) (p : Ps) : Tr α → Tr α :=
  Ps.rec (motive := fun _ => Tr α → Tr α)
    (fun t => Tr.rec (motive := fun _ => Tr α) (.n x .e .e) (fun _ l r _ _ => .n x l r) t)
    (fun _ ih t => Tr.rec (motive := fun _ => Tr α) (.n d (ih .e) .e) (fun v l r _ _ => Tr.rec (motive := fun _ => Tr α) .e (fun a b c _ _ => .n v (.n a b c) r) (ih l)) t)
    (fun _ ih t => Tr.rec (motive := fun _ => Tr α) (.n d .e (ih .e)) (fun v l r _ _ => Tr.rec (motive := fun _ => Tr α) .e (fun a b c _ _ => .n v l (.n a b c)) (ih r)) t) p
end

def bfN {α : Type} (b : Bool) (x y : α) : α := if b then x else y
def bf {α : Type} (b : Bool) (x y : α) : α := Bool.rec (motive := fun _ => α) y x b

inductive CL (α : Type) where
  | nil | c (v : α) (r : CL α) | b (n d : Nat) (r : CL α)
  deriving Inhabited
inductive AV where
  | un | ud | bo (b : Bool) | nt (k : IntKind) (n : Int) | st (n d : Nat) | pn | pt (a : Ps) (off : Nat) | sn | se
  | sl (a : Ps) (off len cap : Nat) (ex : Bool) (esz : Nat)
  | mn | mp (a : Ps) | cn | ch (a : Ps) | fn (f : Ps) (first caps : CL AV) | yl (l : Ps) | fz | it (t : Nat) (v : AV) | iz | ag (c : CL AV) | tu (c : CL AV)
instance : Inhabited AV := ⟨.un⟩
abbrev CV := CL AV

/-! bytes -/
def shl (d n : Nat) : Nat := Nat.shiftLeft d (Nat.mul 8 n)
def shr (d n : Nat) : Nat := Nat.shiftRight d (Nat.mul 8 n)
def low (d n : Nat) : Nat := Nat.mod d (Nat.pow 256 n)
section
variable {α : Type}
def mkb (n d : Nat) (r : CL α) : CL α := bf (Nat.beq n 0) r
  (match r with
    | .b m e s => .b (Nat.add n m) (Nat.add d (shl e n)) s
    | r => .b n d r)
def CL.lenN : CL α → Nat
  | .nil => 0 | .c _ r => r.lenN + 1 | .b n _ r => n + r.lenN
def CL.len (c : CL α) : Nat := CL.rec (motive := fun _ => Nat) 0 (fun _ _ ih => Nat.add ih 1) (fun n _ _ ih => Nat.add n ih) c
def CL.appN (s : CL α) : CL α → CL α
  | .nil => s | .c v r => .c v (CL.appN s r) | .b n d r => mkb n d (CL.appN s r)
def CL.app (s : CL α) (c : CL α) : CL α := CL.rec (motive := fun _ => CL α) s (fun v _ ih => .c v ih) (fun n d _ ih => mkb n d ih) c
def CL.dropN : CL α → Nat → CL α
  | .nil, _ => .nil
  | .c v r, n => bf (Nat.beq n 0) (.c v r) (r.dropN (Nat.pred n))
  | .b m d r, n => bf (Nat.ble m n) (r.dropN (Nat.sub n m)) (.b (Nat.sub m n) (shr d n) r)
def CL.drop (c : CL α) : Nat → CL α := CL.rec (motive := fun _ => Nat → CL α) (fun _ => .nil)
  (fun v r ih n => bf (Nat.beq n 0) (.c v r) (ih (Nat.pred n)))
  (fun m d r ih n => bf (Nat.ble m n) (ih (Nat.sub n m)) (.b (Nat.sub m n) (shr d n) r)) c
def CL.takeN : CL α → Nat → CL α
  | .nil, _ => .nil
  | .c v r, n => bf (Nat.beq n 0) .nil (.c v (r.takeN (Nat.pred n)))
  | .b m d r, n => bf (Nat.ble m n) (.b m d (r.takeN (Nat.sub n m))) (bf (Nat.beq n 0) .nil (.b n (low d n) .nil))
def CL.take (c : CL α) : Nat → CL α := CL.rec (motive := fun _ => Nat → CL α) (fun _ => .nil)
  (fun v _ ih n => bf (Nat.beq n 0) .nil (.c v (ih (Nat.pred n))))
  (fun m d _ ih n => bf (Nat.ble m n) (.b m d (ih (Nat.sub n m))) (bf (Nat.beq n 0) .nil (.b n (low d n) .nil))) c
def CL.putN (new : CL α) (n : Nat) : CL α → Nat → CL α
  | .nil, _ => new
  | .c v r, off => bf (Nat.beq off 0) (CL.app ((CL.c v r).drop n) new) (.c v (CL.putN new n r (Nat.pred off)))
  | .b m d r, off => bf (Nat.ble m off) (mkb m d (CL.putN new n r (Nat.sub off m))) (mkb off (low d off) (CL.app ((CL.b m d r).drop (Nat.add off n)) new))
def CL.put (new : CL α) (n : Nat) (c : CL α) : Nat → CL α := CL.rec (motive := fun _ => Nat → CL α) (fun _ => new)
  (fun v r ih off => bf (Nat.beq off 0) (CL.app ((CL.c v r).drop n) new) (.c v (ih (Nat.pred off))))
  (fun m d r ih off => bf (Nat.ble m off) (mkb m d (ih (Nat.sub off m))) (mkb off (low d off) (CL.app ((CL.b m d r).drop (Nat.add off n)) new))) c
def CL.sub (c : CL α) (off n : Nat) : CL α := (c.drop off).take n
def CL.rep (z : CL α) : Nat → CL α
  | 0 => .nil | n + 1 => CL.app (CL.rep z n) z
def zeros (z : CL α) (n : Nat) : CL α := match z with
  | .b m 0 .nil => mkb (m * n) 0 .nil
  | z => CL.rep z n
def CL.bytes : CL α → Option (Nat × Nat)
  | .nil => some (0, 0) | .b n d .nil => some (n, d) | _ => none
end
def mkc (v : AV) (r : CV) : CV := match v with
  | .nt .u8 (.ofNat m) => bf (Nat.ble m 255) (mkb 1 m r) (.c v r)
  | v => .c v r
def CL.nthN : CV → Nat → AV
  | .nil, _ => .un
  | .c v r, n => bf (Nat.beq n 0) v (r.nthN (Nat.pred n))
  | .b m d r, n => bf (Nat.ble m n) (r.nthN (Nat.sub n m)) (.nt .u8 (Int.ofNat (low (shr d n) 1)))
def CL.nth (c : CV) : Nat → AV := CL.rec (motive := fun _ => Nat → AV) (fun _ => .un)
  (fun v _ ih n => bf (Nat.beq n 0) v (ih (Nat.pred n)))
  (fun m d _ ih n => bf (Nat.ble m n) (ih (Nat.sub n m)) (.nt .u8 (Int.ofNat (low (shr d n) 1)))) c
def AV.clN : AV → CV
  | .ag c => c | v => mkc v .nil
def AV.cl (v : AV) : CV := AV.casesOn v (mkc v .nil) (mkc v .nil) (fun _ => mkc v .nil) (fun _ _ => mkc v .nil) (fun _ _ => mkc v .nil) (mkc v .nil) (fun _ _ => mkc v .nil) (mkc v .nil) (mkc v .nil)
  (fun _ _ _ _ _ _ => mkc v .nil) (mkc v .nil) (fun _ => mkc v .nil) (mkc v .nil) (fun _ => mkc v .nil) (fun _ _ _ => mkc v .nil) (fun _ => mkc v .nil) (mkc v .nil) (fun _ _ => mkc v .nil) (mkc v .nil) (fun c => c) (fun _ => mkc v .nil)


/-- a deferred call: of a function, close, a loop's mark -/
inductive Dq where
  | f (p : Ps) (xs : CV) | cl (v : AV) | mk (b : Ps)
abbrev Df := List Dq
inductive LS where
  | nil | c (v : AV) (r : LS)
  deriving Inhabited
inductive LI where
  | z | s (i : LI)
  deriving Inhabited
inductive EO where
  | l (i : Nat) | t (p : Ps) | k (v : AV)
  deriving Inhabited
abbrev Pt := List (Nat × Nat × EO)

inductive Jp where
  | rt | ex (id : Nat)
  deriving Inhabited
/-- blocks and memory; codes -/
inductive AB where
  | dead
  | cells (c : CV) (ty : Nat) (ex : Bool) (lk : Bool)
  | map (l : List (AV × AV × Nat)) (clock : Nat)
  | chan (cap : Nat) (buf : CV) (sent rcvd : Nat)
  | shut (cap : Nat) (buf : CV) (sent rcvd : Nat)
  | miter (m : Option Ps) (since : Nat) (seen : List Nat) (lb : Option Nat) (last : Nat)
  | loop (busy : Bool) (pend : Option Jp) (done : Bool) (t : Tr AV) (ps : List Ps) (assign body : Nat)
  | defs
instance : Inhabited AB := ⟨.dead⟩
structure HP where
  t : Tr AB
  nx : Ps
  deriving Inhabited
/-- a run's answer: yes, or a hint -/
inductive R where
  | no | yes | vl (v : AV) (h : HP)
  deriving Inhabited
def R.of (b : Bool) : R := bf b .yes .no
instance : Coe Bool R := ⟨R.of⟩
def R.isN : R → Bool
  | .yes => true | _ => false
def R.is (r : R) : Bool := R.rec (motive := fun _ => Bool) false true (fun _ _ => false) r
/-- both -/
def R.both (a b : R) : R := bf a.is b .no
abbrev Kv := AV → HP → R
/-- whom a call goes to: a function, a value -/
inductive Tg where
  | f (p : Ps) | v (a : AV) | d (p : Ps) | x (p : Ps)
abbrev Cl := Tg → CV → HP → Kv → R
abbrev KF := Cl → LS → Tr AV → HP → Kv → R
inductive EL where
  | nil
  | m (x : EO) (r : EL)            -- a move, into the region's own places
  | me (p : Ps) (x : EO) (r : EL)  -- and into the frame's
  | s (k : KF) (r : EL) | se (p : Ps) (k : KF) (r : EL)
  | gm (g : EO) (w : Bool) (x : EO) (r : EL) | gs (g : EO) (w : Bool) (k : KF) (r : EL) | ge (g : EO) (w : Bool) (p : Ps) (k : KF) (r : EL)
  | ck (ks : List (Nat × KF)) (r : EL)
  | df (f : EO) (xs : List EO) (r : EL) | dc (x : EO) (r : EL) | pk (ks : List KF) (r : EL)
  deriving Inhabited
inductive EC where
  | skip | reg (l : EL) | dreg (l : EL) | seq (a b : EC) | cond (x : EO) (a b : EC) | block (id : Nat) (a : EC) | loop (a : EC)
  | rf (f : EO) (ps : List Ps) (i j : Nat) | exit (id : Nat) | scope (a : EC) | ret | bad
  deriving Inhabited
/-- a function: its code, and the rounds' codes; or a law -/
inductive EF where
  | none
  | code (df : Bool) (np : Nat) (res : List (Ps × Option (Nat × Bool))) (body : EC)
  | join (np : Nat) (res : List (Ps × Option (Nat × Bool))) (b1 body : EC)
  | pr (g : CV → HP → Kv → R)
  | ext (g : CV → HP → Kv → R)
  deriving Inhabited

def HP.get (h : HP) (a : Ps) : AB := Tr.get .dead a h.t
def HP.put (h : HP) (a : Ps) (b : AB) : HP := ⟨Tr.set .dead b a h.t, h.nx⟩
def HP.new (h : HP) (b : AB) : HP := ⟨Tr.set .dead b h.nx h.t, h.nx.succ⟩
def LS.nthN : Nat → LS → AV
  | 0, .c v _ => v | i + 1, .c _ r => LS.nthN i r | _, .nil => .un
def LS.nth (i : Nat) : LS → AV := Nat.rec (motive := fun _ => LS → AV) (fun l => LS.rec (motive := fun _ => AV) .un (fun v _ _ => v) l) (fun _ ih l => LS.rec (motive := fun _ => AV) .un (fun _ r _ => ih r) l) i
def rdN (l : LS) (e : Tr AV) : EO → AV
  | .l i => LS.nth i l | .t p => Tr.get .un p e | .k v => v
def rd (l : LS) (e : Tr AV) (x : EO) : AV := EO.rec (motive := fun _ => AV) (fun i => LS.nth i l) (fun p => Tr.get .un p e) (fun v => v) x
def kkE : IntKind → IntKind → Bool
  | .i8, .i8 | .i16, .i16 | .i32, .i32 | .i64, .i64 | .u8, .u8 | .u16, .u16 | .u32, .u32 | .u64, .u64 => true
  | _, _ => false
def iEq : Int → Int → Bool
  | .ofNat a, .ofNat b => Nat.beq a b
  | .negSucc a, .negSucc b => Nat.beq a b
  | _, _ => false
def keyI : AV → AV → Option Bool
  | .nt k a, .nt j b => bf (kkE k j) (some (iEq a b)) none
  | _, _ => none
def keyS : AV → AV → Option Bool
  | .st n a, .st m b => some (bf (Nat.beq n m) (Nat.beq a b) false)
  | _, _ => none
def keyB : AV → AV → Option Bool
  | .bo a, .bo b => some (bf a b (bf b false true))
  | _, _ => none
abbrev Kq := AV → AV → Option Bool
def eqI : AV → AV → Option Bool
  | .nt k a, .nt j b => bf (kkE k j) (some (iEq a b)) none
  | .st n a, .st m b => some (bf (Nat.beq n m) (Nat.beq a b) false)
  | _, _ => none
def eqB : AV → AV → Option Bool
  | .bo a, .bo b => some (bf a b (bf b false true))
  | _, _ => none
def eqP : AV → AV → Option Bool
  | .pn, .pn => some true
  | .pn, .pt _ _ => some false
  | .pt _ _, .pn => some false
  | .pt a i, .pt b j => bf (Ps.eqN a b) (some (Nat.beq i j)) none
  | _, _ => none
def eqL : AV → AV → Option Bool
  | .sn, .sn => some true
  | .sn, .sl .. => some false
  | .sn, .se => some false
  | .sl .., .sn => some false
  | .se, .sn => some false
  | _, _ => none
def eqM : AV → AV → Option Bool
  | .mn, .mn => some true
  | .mn, .mp _ => some false
  | .mp _, .mn => some false
  | _, _ => none
def eqC : AV → AV → Option Bool
  | .cn, .cn => some true
  | .cn, .ch _ => some false
  | .ch _, .cn => some false
  | _, _ => none
def eqF : AV → AV → Option Bool
  | .fz, .fz => some true
  | .fz, .fn .. => some false
  | .fn .., .fz => some false
  | _, _ => none
def eqN : AV → AV → Option Bool
  | .iz, .iz => some true
  | .iz, .it .. => some false
  | .it .., .iz => some false
  | _, _ => none
def eqS : AV → AV → Option Bool
  | .bo a, .bo b => some (bf a b (bf b false true))
  | a, b => eqI a b
def eqAs : CV → CV → Option Bool
  | .nil, .nil => some true
  | .c v r, .c u s => match eqS v u with | some true => eqAs r s | x => x
  | .b n d r, .b m e s => bf (Nat.beq n m) (bf (Nat.beq d e) (eqAs r s) (some false)) none
  | _, _ => none
/-- structs of plain fields -/
def eqA : AV → AV → Option Bool
  | .ag a, .ag b => eqAs a b
  | _, _ => none
/-! integers -/
def mxN : IntKind → Nat
  | .i8 => 0x7f | .i16 => 0x7fff | .i32 => 0x7fffffff | .i64 => 0x7fffffffffffffff | .u8 => 0xff | .u16 => 0xffff | .u32 => 0xffffffff | .u64 => 0xffffffffffffffff
def mx (k : IntKind) : Nat := IntKind.rec (motive := fun _ => Nat) 0x7f 0x7fff 0x7fffffff 0x7fffffffffffffff 0xff 0xffff 0xffffffff 0xffffffffffffffff k
def wrN (k : IntKind) (z : Int) : Int := match z with
  | .ofNat m => bf (Nat.ble m (mx k)) (.ofNat m) (k.wrap (.ofNat m))
  | z => k.wrap z
def wr (k : IntKind) (z : Int) : Int := Int.rec (motive := fun _ => Int) (fun m => bf (Nat.ble m (mx k)) (.ofNat m) (k.wrap (.ofNat m))) (fun m => k.wrap (.negSucc m)) z
def iaddN (a b : Int) : Int := a + b
def iadd (a b : Int) : Int := Int.rec (motive := fun _ => Int) (fun m => Int.rec (motive := fun _ => Int) (fun n => .ofNat (Nat.add m n)) (fun n => Int.add (.ofNat m) (.negSucc n)) b) (fun m => Int.add (.negSucc m) b) a
def isubN (a b : Int) : Int := a - b
def isub (a b : Int) : Int := Int.rec (motive := fun _ => Int) (fun m => Int.rec (motive := fun _ => Int) (fun n => bf (Nat.ble n m) (.ofNat (Nat.sub m n)) (.negSucc (Nat.pred (Nat.sub n m)))) (fun n => Int.sub (.ofNat m) (.negSucc n)) b) (fun m => Int.sub (.negSucc m) b) a
def iltN (a b : Int) : Bool := decide (a < b)
def ilt (a b : Int) : Bool := Int.rec (motive := fun _ => Bool) (fun m => Int.rec (motive := fun _ => Bool) (fun n => Nat.ble (Nat.add m 1) n) (fun _ => false) b) (fun m => Int.rec (motive := fun _ => Bool) (fun _ => true) (fun n => Nat.ble (Nat.add n 1) m) b) a
def ints (f : IntKind → Int → Int → Option AV) : AV → AV → Option AV
  | .nt k a, .nt j b => bf (kkE k j) (f k a b) none
  | _, _ => none
def nats (f : Nat → Nat → Nat) (k : IntKind) : Int → Int → Option AV
  | .ofNat a, .ofNat b => bf (Nat.ble a (mx k)) (bf (Nat.ble b (mx k)) (some (.nt k (.ofNat (f a b)))) none) none
  | _, _ => none
def bAdd : AV → AV → Option AV
  | .nt k a, .nt j b => bf (kkE k j) (some (.nt k (wr k (iadd a b)))) none
  | .st n a, .st m b => bf (Nat.ble (Nat.add n m) 0x7fffffffffffffff) (some (.st (Nat.add n m) (Nat.add a (shl b n)))) none
  | _, _ => none
def slt : Nat → Nat → Nat → Nat → Bool
  | _, _, 0, _ => false
  | 0, _, _ + 1, _ => true
  | n + 1, a, m + 1, b => bf (Nat.ble (Nat.add (Nat.mod a 256) 1) (Nat.mod b 256)) true (bf (Nat.beq (Nat.mod a 256) (Nat.mod b 256)) (slt n (Nat.div a 256) m (Nat.div b 256)) false)
def vlt : AV → AV → Option Bool
  | .nt k a, .nt j b => bf (kkE k j) (some (ilt a b)) none
  | .st n a, .st m b => some (slt n a m b)
  | _, _ => none
def bBo : Option Bool → Option AV
  | some b => some (.bo b) | none => none
def bNo : Option Bool → Option AV
  | some b => some (.bo (bf b false true)) | none => none
def bQuo (k : IntKind) : Int → Int → Option AV
  | _, .ofNat 0 => none
  | .ofNat a, .ofNat b => some (.nt k (wr k (.ofNat (Nat.div a b))))
  | a, b => some (.nt k (k.wrap (a.tdiv b)))
def bRem (k : IntKind) : Int → Int → Option AV
  | _, .ofNat 0 => none
  | .ofNat a, .ofNat b => some (.nt k (.ofNat (Nat.mod a b)))
  | a, b => some (.nt k (a.tmod b))
def shfs (f : IntKind → Int → Int → Option AV) : AV → AV → Option AV
  | .nt k a, .nt _ b => f k a b
  | _, _ => none
def bShl (k : IntKind) (a : Int) : Int → Option AV
  | .ofNat b => some (.nt k (wr k (a * 2 ^ (min b k.bits))))
  | _ => none
def bShr (k : IntKind) : Int → Int → Option AV
  | .ofNat a, .ofNat b => some (.nt k (.ofNat (Nat.shiftRight a (min b k.bits))))
  | a, .ofNat b => some (.nt k (a.fdiv (2 ^ (min b k.bits))))
  | _, _ => none
def binN (op : BinOp) (x y : AV) : Option AV := match op with
  | .add => bAdd x y | .sub => ints (fun k a b => some (.nt k (wr k (isub a b)))) x y | .mul => ints (fun k a b => some (.nt k (wr k (Int.mul a b)))) x y
  | .quo => ints bQuo x y | .rem => ints bRem x y | .and => ints (nats Nat.land) x y | .or => ints (nats Nat.lor) x y | .xor => ints (nats Nat.xor) x y
  | .shl => shfs bShl x y | .shr => shfs bShr x y | .andNot => none
  | .eql => none | .neq => none | .lss => bBo (vlt x y) | .leq => bNo (vlt y x) | .gtr => bBo (vlt y x) | .geq => bNo (vlt x y)
def bSub (x y : AV) : Option AV := ints (fun k a b => some (.nt k (wr k (isub a b)))) x y
def bMul (x y : AV) : Option AV := ints (fun k a b => some (.nt k (wr k (Int.mul a b)))) x y
def bin (op : BinOp) (x y : AV) : Option AV := BinOp.rec (motive := fun _ => AV → AV → Option AV)
  bAdd bSub bMul (ints bQuo) (ints bRem) (fun x y => ints (nats Nat.land) x y) (fun x y => ints (nats Nat.lor) x y) (fun x y => ints (nats Nat.xor) x y)
  (shfs bShl) (shfs bShr) (fun _ _ => none) (fun _ _ => none) (fun _ _ => none) (fun x y => bBo (vlt x y)) (fun x y => bNo (vlt y x)) (fun x y => bBo (vlt y x)) (fun x y => bNo (vlt x y)) op x y
def unx (k : IntKind) (m : Nat) (n : Nat) : Option AV := bf (Nat.ble n m) (some (.nt k (.ofNat (Nat.xor n m)))) none
def un (op : UnOp) (x : AV) : Option AV := match op, x with
  | .not, .bo b => some (.bo (bf b false true))
  | .neg, .nt k n => some (.nt k (k.wrap (0 - n)))
  | .xor, .nt .u32 (.ofNat n) => unx .u32 0xffffffff n
  | .xor, .nt .u8 (.ofNat n) => unx .u8 0xff n
  | .xor, .nt .u64 (.ofNat n) => unx .u64 0xffffffffffffffff n
  | _, _ => none


/-- structs of plain fields -/
inductive FK where
  | i | s | b
  deriving Inhabited
def eqFk : FK → AV → AV → Option Bool
  | .i, .nt k a, .nt j b => bf (kkE k j) (some (iEq a b)) none
  | .s, .st n a, .st m b => some (bf (Nat.beq n m) (Nat.beq a b) false)
  | .b, .bo a, .bo b => some (bf a b (bf b false true))
  | _, _, _ => none
def drI : Nat → List FK → Option (List FK)
  | 0, ks => some ks
  | n + 1, .i :: ks => drI n ks
  | _, _ => none
def eqAk : List FK → CV → CV → Option Bool
  | ks, .nil, .nil => match ks with | [] => some true | _ => none
  | ks, .c v r, .c u s => match ks with
    | k :: ks => match eqFk k v u with | some true => eqAk ks r s | x => x
    | [] => none
  | ks, .b n d r, .b m e s => bf (Nat.beq n m) (match drI n ks with | some ks' => bf (Nat.beq d e) (eqAk ks' r s) (some false) | none => none) none
  | _, _, _ => none
def eqSt (ks : List FK) : AV → AV → Option Bool
  | .ag a, .ag b => eqAk ks a b
  | _, _ => none
/-! ### the same -/
mutual
def AV.same : AV → AV → Bool
  | .un, .un => true | .ud, .ud => true | .pn, .pn => true | .sn, .sn => true | .se, .se => true | .mn, .mn => true | .cn, .cn => true | .fz, .fz => true | .iz, .iz => true
  | .bo a, .bo b => bf a b (bf b false true)
  | .nt k a, .nt j b => bf (kkE k j) (iEq a b) false
  | .st n a, .st m b => bf (Nat.beq n m) (Nat.beq a b) false
  | .pt a i, .pt b j => bf (Ps.eqN a b) (Nat.beq i j) false
  | .sl a o n c x e, .sl b p m d y f => bf (Ps.eqN a b) (bf (Nat.beq o p) (bf (Nat.beq n m) (bf (Nat.beq c d) (bf (bf x y (bf y false true)) (Nat.beq e f) false) false) false) false) false
  | .mp a, .mp b => Ps.eqN a b
  | .ch a, .ch b => Ps.eqN a b
  | .yl a, .yl b => Ps.eqN a b
  | .fn f a b, .fn g c d => bf (Ps.eqN f g) (bf (CL.same a c) (CL.same b d) false) false
  | .it t v, .it u x => bf (Nat.beq t u) (AV.same v x) false
  | .ag a, .ag b => CL.same a b
  | .tu a, .tu b => CL.same a b
  | _, _ => false
def CL.same : CL AV → CL AV → Bool
  | .nil, .nil => true
  | .c v r, .c u s => bf (AV.same v u) (CL.same r s) false
  | .b n d r, .b m e s => bf (Nat.beq n m) (bf (Nat.beq d e) (CL.same r s) false) false
  | _, _ => false
end
def enS : List (AV × AV × Nat) → List (AV × AV × Nat) → Bool
  | [], [] => true
  | (k, v, b) :: r, (j, u, c) :: s => bf (AV.same k j) (bf (AV.same v u) (bf (Nat.beq b c) (enS r s) false) false) false
  | _, _ => false
def ntS : List Nat → List Nat → Bool
  | [], [] => true
  | a :: r, b :: s => bf (Nat.beq a b) (ntS r s) false
  | _, _ => false
def opS : Option Ps → Option Ps → Bool
  | none, none => true
  | some a, some b => Ps.eqN a b
  | _, _ => false
def trV : Tr AV → Tr AV → Bool
  | .e, .e => true
  | .n v l r, .n u m s => bf (AV.same v u) (bf (trV l m) (trV r s) false) false
  | _, _ => false
def psS : List Ps → List Ps → Bool
  | [], [] => true
  | a :: r, b :: s => bf (Ps.eqN a b) (psS r s) false
  | _, _ => false
def jpS : Option Jp → Option Jp → Bool
  | none, none => true
  | some .rt, some .rt => true
  | some (.ex i), some (.ex j) => Nat.beq i j
  | _, _ => false
def boS (a b : Bool) : Bool := bf a b (bf b false true)
def AB.same : AB → AB → Bool
  | .dead, .dead => true
  | .defs, .defs => true
  | .cells c t x l, .cells d u y m => bf (CL.same c d) (bf (Nat.beq t u) (bf (boS x y) (boS l m) false) false) false
  | .map l c, .map m d => bf (enS l m) (Nat.beq c d) false
  | .chan c b s r, .chan d e t u => bf (Nat.beq c d) (bf (CL.same b e) (bf (Nat.beq s t) (Nat.beq r u) false) false) false
  | .shut c b s r, .shut d e t u => bf (Nat.beq c d) (bf (CL.same b e) (bf (Nat.beq s t) (Nat.beq r u) false) false) false
  | .loop a p d t s i j, .loop b q e u r k l => bf (boS a b) (bf (jpS p q) (bf (boS d e) (bf (trV t u) (bf (psS s r) (bf (Nat.beq i k) (Nat.beq j l) false) false) false) false) false) false
  | .miter m s l none c, .miter n t k none d => bf (opS m n) (bf (Nat.beq s t) (bf (ntS l k) (Nat.beq c d) false) false) false
  | _, _ => false
def trS : Tr AB → Tr AB → Bool
  | .e, .e => true
  | .n v l r, .n u m s => bf (AB.same v u) (bf (trS l m) (trS r s) false) false
  | _, _ => false
def HP.same (h k : HP) : Bool := bf (Ps.eqN h.nx k.nx) (trS h.t k.t) false

/-! ### the parts of operations -/
abbrev Kc := CV → R
def nat (v : AV) (K : Nat → R) : R := match v with
  | .nt _ (.ofNat n) => K n
  | _ => false
def okv (v : AV) (K : AV → R) : R := match v with
  | .un => false
  | v => K v
def ldcB (off : Nat) : AB → AV
  | .cells c _ _ _ => c.nth off
  | _ => .un
def ldr (n : Nat) (r : CV) (K : Kc) : R := bf (Nat.beq r.len n) (K r) false
def ldsB (off n : Nat) (K : Kc) : AB → R
  | .cells c _ _ _ => ldr n (c.sub off n) K
  | _ => false
def lds (h : HP) (a : Ps) (off n : Nat) (K : Kc) : R := ldsB off n K (h.get a)
def AV.sto : AV → Bool
  | .un | .ud | .ag _ | .tu _ => false
  | _ => true
def CL.stoN : CV → Bool
  | .nil => true | .c v r => bf v.sto r.stoN false | .b _ _ r => r.stoN
/-- each cell may be stored -/
def CL.sto (c : CV) : Bool := CL.rec (motive := fun _ => Bool) true (fun v _ ih => bf v.sto ih false) (fun _ _ _ ih => ih) c
def stcB (h : HP) (a : Ps) (off n : Nat) (x : CV) (K : HP → R) : AB → R
  | .cells c ty ex false => bf x.sto (bf (Nat.beq x.len n) (bf (Nat.ble (Nat.add off n) c.len) (K (h.put a (.cells (CL.put x n c off) ty ex false))) false) false) false
  | _ => false
def stc (h : HP) (a : Ps) (off n : Nat) (x : CV) (K : HP → R) : R := stcB h a off n x K (h.get a)
/-- a value's cells -/
def clK (v : AV) (K : Kc) : R := match v with
  | .un => false
  | v => K v.cl
def fill (l : LS) (e : Tr AV) (K : Kc) : Pt → CV → R
  | [], z => K z
  | (off, n, x) :: r, z => clK (rd l e x) fun c => bf (Nat.beq c.len n) (bf (Nat.ble (Nat.add off n) z.len) (fill l e K r (CL.put c n z off)) false) false
def onat (l : LS) (e : Tr AV) (d : Nat) (K : Nat → R) : Option EO → R
  | none => K d
  | some x => nat (rd l e x) K
def rds (l : LS) (e : Tr AV) : List EO → CV
  | [] => .nil
  | x :: r => .c (rd l e x) (rds l e r)
/-- where a key is: K of the place from the front, its value and its stamp; N: nowhere -/
def findM (q : Kq) (k : AV) (N : R) (K : Nat → AV → Nat → R) : List (AV × AV × Nat) → R
  | [] => N
  | (u, v, b) :: r => match q k u with
    | some true => K 0 v b
    | some false => findM q k N (fun i => K (Nat.add i 1)) r
    | none => false
def updM (k v : AV) (b : Nat) : Nat → List (AV × AV × Nat) → List (AV × AV × Nat)
  | _, [] => []
  | 0, _ :: r => (k, v, b) :: r
  | i + 1, x :: r => x :: updM k v b i r
def remM : Nat → List (AV × AV × Nat) → List (AV × AV × Nat)
  | _, [] => []
  | 0, _ :: r => r
  | i + 1, x :: r => x :: remM i r
def goi (n : Nat) : AV := .nt .i64 (.ofNat n)
def cells? (h : HP) (esz : Nat) (K : Kc) : AV → R
  | .sl a off len _ _ _ => lds h a off (Nat.mul len esz) K
  | .sn | .se => K .nil
  | .st n d => K (mkb n d .nil)
  | _ => false
def ln (K : Nat → R) : AV → R
  | .st n _ => K n | .sl _ _ n _ _ _ => K n | .sn | .se => K 0 | .mn | .cn => K 0 | _ => false
def oko (h : HP) (K : Kv) : Option AV → R
  | none => false
  | some v => K v h
def pair (ok : Bool) (v : AV) (b : Bool) : AV := bf ok (.tu (.c v (.c (.bo b) .nil))) v
/-! append -/
def appN (h : HP) (ty esz : Nat) (a : Ps) (off len n : Nat) (new : CV) (K : Kv) : R :=
  lds h a off (Nat.mul len esz) fun old => K (.sl h.nx 0 (Nat.add len n) (Nat.add len n) false esz) (h.new (.cells (CL.app new old) ty false false))
/-- the old block, or a new one: who knows -/
def appA (h : HP) (ty esz : Nat) (a : Ps) (off len n : Nat) (new : CV) (K : Kv) : AB → R
  | .cells c ty' ex false => bf (Nat.beq ty' ty) (bf (Nat.ble (Nat.add off (Nat.mul len esz)) c.len) (bf new.sto (ldr (Nat.mul len esz) (c.sub off (Nat.mul len esz)) fun old => K (.sl h.nx 0 (Nat.add len n) (Nat.add len n) false esz) (HP.new (h.put a .dead) (.cells (CL.app new old) ty false false))) .no) .no) .no
  | _ => .no
def appSl (h : HP) (ty esz : Nat) (a : Ps) (off len cap : Nat) (ex : Bool) (n : Nat) (new : CV) (K : Kv) : R :=
  bf (Nat.ble (Nat.add len n) cap) (stc h a (Nat.add off (Nat.mul len esz)) (Nat.mul n esz) new (K (.sl a off (Nat.add len n) cap ex esz)))
    (bf (Nat.ble (Nat.add len n) 1000000) (bf ex (appN h ty esz a off len n new K) (appA h ty esz a off len n new K (h.get a))) .no)
def appTo (h : HP) (ty esz n : Nat) (new : CV) (K : Kv) : AV → R
  | .sn => bf (Nat.beq n 0) (K .sn h) (bf (Nat.ble n 1000000) (K (.sl h.nx 0 n n false esz) (h.new (.cells new ty false false))) .no)
  | .sl a off len cap ex es => bf (Nat.beq es esz) (appSl h ty esz a off len cap ex n new K) .no
  | .se => bf (Nat.beq n 0) (K .se h) false
  | _ => false
section
variable (l : LS) (e : Tr AV) (h : HP) (K : Kv)
def vPick (a b : EO) : AV → R
  | .bo c => K (bf c (rd l e a) (rd l e b)) h
  | _ => false
def vLd1 : AV → R
  | .pt p off => okv (ldcB off (h.get p)) fun v => K v h
  | _ => false
def vLdn (n : Nat) : AV → R
  | .pt p off => lds h p off n fun c => K (.ag c) h
  | _ => false
def vSt (n : Nat) (x : CV) : AV → R
  | .pt p off => stc h p off n x (K .un)
  | _ => false
def vNil : AV → R
  | .pn | .iz | .fz | .un | .ud => false
  | v => K v h
def vCvi (k : IntKind) : AV → R
  | .nt _ n => K (.nt k (wr k n)) h
  | _ => false
def vS2b (ty : Nat) : AV → R
  | .st n d => K (.sl h.nx 0 n n false 1) (h.new (.cells (mkb n d .nil) ty false false))
  | _ => false
def vStr : Option (Nat × Nat) → R
  | some (n, d) => K (.st n d) h
  | none => false
def vS2ap (n : Nat) : AV → R
  | .sl a off len _ _ _ => bf (Nat.ble n len) (K (.pt a off) h) false
  | _ => false
def vSub (n d l m : Nat) : R := bf (Nat.ble l m) (bf (Nat.ble m n) (K (.st (Nat.sub m l) (low (shr d l) (Nat.sub m l))) h) false) false
def hasB (n : Nat) (r : R) : AB → R
  | .cells c _ _ _ => bf (Nat.ble n c.len) r .no
  | _ => .no
def vSls (lo hi : Option EO) : AV → R
  | .st n d => onat l e 0 (fun i => onat l e n (fun j => vSub h K n d i j) hi) lo
  | _ => false
def vSlx (a : Ps) (off esz cap l m x : Nat) : R :=
  bf (Nat.ble l m) (bf (Nat.ble m x) (bf (Nat.ble x cap) (K (.sl a (bf (Nat.beq x l) off (Nat.add off (Nat.mul l esz))) (Nat.sub m l) (Nat.sub x l) true esz) h) false) false) false
def vSlu (a : Ps) (off esz cap l m : Nat) : R :=
  bf (Nat.ble l m) (bf (Nat.ble m cap)
      (bf (Nat.beq cap l) (bf (Nat.beq l 0) (K (.sl a off 0 0 false esz) h) (K .se h)) (K (.sl a (Nat.add off (Nat.mul l esz)) (Nat.sub m l) (Nat.sub cap l) false esz) h)) false) false
def vSla (n esz : Nat) (lo hi mx : Option EO) : AV → R
  | .pt a off => hasB (Nat.add off (Nat.mul n esz)) (onat l e 0 (fun i => onat l e n (fun j => onat l e n (fun x => vSlx h K a off esz n i j x) mx) hi) lo) (h.get a)
  | _ => false
def vSlm (esz : Nat) (a : Ps) (off cap i j : Nat) : Bool → Option EO → R
  | true, none => vSlx h K a off esz cap i j cap
  | false, none => vSlu h K a off esz cap i j
  | _, some mx => nat (rd l e mx) fun x => vSlx h K a off esz cap i j x
def vNil0 (v : AV) (i j : Nat) : R := bf (Nat.beq i 0) (bf (Nat.beq j 0) (K v h) false) false
def vSl0 (lo hi : Option EO) (v : AV) : Option EO → R
  | none => onat l e 0 (fun i => onat l e 0 (fun j => vNil0 h K v i j) hi) lo
  | some _ => false
def vSlc (esz : Nat) (lo hi mx : Option EO) : AV → R
  | .sl a off len cap ex es => bf (Nat.beq es esz) (onat l e 0 (fun i => onat l e len (fun j => vSlm l e h K esz a off cap i j ex mx) hi) lo) .no
  | .sn => vSl0 l e h K lo hi .sn mx
  | .se => vSl0 l e h K lo hi .se mx
  | _ => false
def vFa (off : Nat) : AV → R
  | .pt a o => K (.pt a (Nat.add o off)) h
  | _ => false
def vPart (off n : Nat) (agg : Bool) : AV → R
  | .ag c => bf agg (ldr n (c.sub off n) fun c => K (.ag c) h) (okv (c.nth off) fun v => K v h)
  | _ => false
def vIa (n esz i : Nat) : AV → R
  | .pt a o => bf (Nat.ble (Nat.add i 1) n) (K (.pt a (Nat.add o (Nat.mul i esz))) h) false
  | _ => false
def vIsl (esz i : Nat) : AV → R
  | .sl a o len _ _ _ => bf (Nat.ble (Nat.add i 1) len) (K (.pt a (Nat.add o (Nat.mul i esz))) h) false
  | _ => false
def vIxs (i : Nat) : AV → R
  | .st n d => bf (Nat.ble (Nat.add i 1) n) (K (.nt .u8 (.ofNat (low (shr d i) 1))) h) false
  | _ => false
def vLkB (q : Kq) (z : AV) (ok : Bool) (k : AV) : AB → R
  | .map l _ => findM q k (K (pair ok z false) h) (fun _ v _ => K (pair ok v true) h) l
  | _ => false
def vLk (q : Kq) (z : AV) (ok : Bool) (k : AV) : AV → R
  | .mn => K (pair ok z false) h
  | .mp a => vLkB h K q z ok k (h.get a)
  | _ => false
def vMuB (q : Kq) (a : Ps) (k v : AV) : AB → R
  | .map l c => findM q k (K .un (h.put a (.map (l ++ [(k, v, c)]) (Nat.add c 1)))) (fun i _ b => K .un (h.put a (.map (updM k v b i l) c))) l
  | _ => false
def vMu (q : Kq) (k v : AV) : AV → R
  | .mp a => vMuB h K q a k v (h.get a)
  | _ => false
def vMeB (q : Kq) (a : Ps) (z k : AV) : AB → R
  | .map l c => findM q k (K (.tu (.c z (.c (goi c) .nil))) (h.put a (.map (l ++ [(k, z, c)]) (Nat.add c 1)))) (fun i v b => K (.tu (.c v (.c (goi b) .nil))) (h.put a (.map (updM k v b i l) c))) l
  | _ => false
def vMe (q : Kq) (z k : AV) : AV → R
  | .mp a => vMeB h K q a z k (h.get a)
  | _ => false
def findB (s : Nat) (K : Nat → AV → R) : List (AV × AV × Nat) → R
  | [] => false
  | (q, _, b) :: r => bf (Nat.beq b s) (K 0 q) (findB s (fun i => K (Nat.add i 1)) r)
def vEsB (a : Ps) (s : Nat) (v : AV) : AB → R
  | .map l c => findB s (fun i q => K .un (h.put a (.map (updM q v s i l) c))) l
  | _ => false
def vEs (v : AV) (s : Nat) : AV → R
  | .mp a => vEsB h K a s v (h.get a)
  | _ => false
def vRngB (a : Ps) : AB → R
  | .map _ c => K (.pt h.nx 0) (h.new (.miter (some a) c [] none c))
  | _ => false
def vRng : AV → R
  | .mn => K (.pt h.nx 0) (h.new (.miter none 0 [] none 0))
  | .mp a => vRngB h K a (h.get a)
  | _ => false
def insN (b : Nat) : List Nat → List Nat
  | [] => [b]
  | c :: r => bf (Nat.ble b c) (b :: c :: r) (c :: insN b r)
/-- each entry that is left may come next -/
def vNxtA (r m : Ps) (since c : Nat) (seen : List Nat) : List (AV × AV × Nat) → R
  | [] => .yes
  | (k, v, b) :: l => R.both (bf (seen.contains b) .yes (bf (Nat.ble (Nat.add b 1) since) (K (.tu (.c (.bo true) (.c k (.c v .nil)))) (h.put r (.miter (some m) since (insN b seen) (some b) c))) .no)) (vNxtA r m since c seen l)
def allSeen (seen : List Nat) : List (AV × AV × Nat) → Bool
  | [] => true
  | (_, _, b) :: l => bf (seen.contains b) (allSeen seen l) false
def vNxtM (r m : Ps) (since last : Nat) (seen : List Nat) : AB → R
  | .map l c => bf (allSeen seen l) (K (.tu (.c (.bo false) .nil)) (h.put r (.miter (some m) since seen none last))) (bf (Nat.ble since c) (vNxtA h K r m since c seen l) .no)
  | _ => false
def vNxt1L (r m : Ps) (since c last : Nat) (seen : List Nat) : List (AV × AV × Nat) → R
  | [] => K (.tu (.c (.bo false) .nil)) (h.put r (.miter (some m) since seen none last))
  | (k, v, b) :: l => bf (seen.contains b) (vNxt1L r m since c last seen l) (K (.tu (.c (.bo true) (.c k (.c v .nil)))) (h.put r (.miter (some m) since (insN b seen) (some b) c)))
def vNxt1M (r m : Ps) (since last : Nat) (seen : List Nat) : AB → R
  | .map l c => vNxt1L h K r m since c last seen l
  | _ => .no
def vNxt1B (r : Ps) : AB → R
  | .miter none _ _ _ _ => K (.tu (.c (.bo false) .nil)) h
  | .miter (some m) since seen _ last => vNxt1M h K r m since last seen (h.get m)
  | _ => .no
def vNxt1 : AV → R
  | .pt r 0 => vNxt1B h K r (h.get r)
  | _ => .no
def vNxtB (r : Ps) : AB → R
  | .miter none _ _ _ _ => K (.tu (.c (.bo false) .nil)) h
  | .miter (some m) since seen _ last => vNxtM h K r m since last seen (h.get m)
  | _ => false
def vNxt : AV → R
  | .pt r 0 => vNxtB h K r (h.get r)
  | _ => false
def vExt (i : Nat) : AV → R
  | .tu c => bf (Nat.ble (Nat.add i 1) c.len) (K (c.nth i) h) .no
  | _ => false
def vCopyT (k n : Nat) (c : CV) : AV → R
  | .sl a off _ _ _ _ => stc h a off n (c.take n) (K (goi k))
  | .sn => K (goi 0) h
  | .se => K (goi 0) h
  | _ => false
def vDelB (q : Kq) (a : Ps) (k : AV) : AB → R
  | .map l c => findM q k (K (.tu .nil) h) (fun i _ _ => K (.tu .nil) (h.put a (.map (remM i l) c))) l
  | _ => false
def vDel (q : Kq) (k : AV) : AV → R
  | .mn => K (.tu .nil) h
  | .mp a => vDelB h K q a k (h.get a)
  | _ => false
def vClrmB (a : Ps) : AB → R
  | .map _ c => K (.tu .nil) (h.put a (.map [] c))
  | _ => false
def vClrm : AV → R
  | .mn => K (.tu .nil) h
  | .mp a => vClrmB h K a (h.get a)
  | _ => false
def vClrs (esz : Nat) (z : CV) : AV → R
  | .sn => K (.tu .nil) h
  | .se => K (.tu .nil) h
  | .sl a off len _ _ _ => stc h a off (Nat.mul len esz) (zeros z len) (K (.tu .nil))
  | _ => false
def vLenS : AV → R
  | .st n _ => K (goi n) h
  | _ => .no
def vLenL : AV → R
  | .sl _ _ n _ _ _ => K (goi n) h
  | .sn | .se => K (goi 0) h
  | _ => .no
def vLenMB : AB → R
  | .map l _ => K (goi l.length) h
  | _ => .no
def vLenM : AV → R
  | .mn => K (goi 0) h
  | .mp a => vLenMB h K (h.get a)
  | _ => .no
def vLenCB : AB → R
  | .chan _ b _ _ => K (goi b.len) h
  | _ => .no
def vLenC : AV → R
  | .cn => K (goi 0) h
  | .ch a => vLenCB h K (h.get a)
  | _ => .no
def vCap : AV → R
  | .sl _ _ _ c true _ => K (goi c) h
  | .sn => K (goi 0) h
  | _ => false
def vMnx (mx : Bool) : AV → AV → R
  | .nt k a, .nt j b => bf (kkE k j) (K (.nt k (bf mx (bf (ilt a b) b a) (bf (ilt b a) b a))) h) false
  | _, _ => false
def vUsd : AV → R
  | .sn => K .pn h
  | .sl a off _ c _ _ => bf (Nat.beq c 0) false (K (.pt a off) h)
  | _ => false
def vUst (n : Nat) : AV → R
  | .pn => bf (Nat.beq n 0) (K (.st 0 0) h) false
  | .pt _ _ => bf (Nat.beq n 0) (K (.st 0 0) h) .no
  | _ => false
def vSendB (x : AV) (a : Ps) : AB → R
  | .chan cap b s r => bf (Nat.ble (Nat.add b.len 1) cap) (K .un (h.put a (.chan cap (CL.app (.c x .nil) b) (Nat.add s 1) r))) false
  | _ => false
def vSend (x : AV) : AV → R
  | .ch a => vSendB h K x a (h.get a)
  | _ => false
def vRecvB (ok : Bool) (a : Ps) : AB → R
  | .chan cap (.c v b) s r => K (pair ok v true) (h.put a (.chan cap b s (Nat.add r 1)))
  | .shut cap (.c v b) s r => K (pair ok v true) (h.put a (.shut cap b s (Nat.add r 1)))
  | _ => false
def vRecv (ok : Bool) : AV → R
  | .ch a => vRecvB h K ok a (h.get a)
  | _ => false
def vSelB (z : AV) (a : Ps) : AB → R
  | .chan cap (.c v b) s r => K (.tu (.c (goi 0) (.c (.bo true) (.c v .nil)))) (h.put a (.chan cap b s (Nat.add r 1)))
  | .shut cap (.c v b) s r => K (.tu (.c (goi 0) (.c (.bo true) (.c v .nil)))) (h.put a (.shut cap b s (Nat.add r 1)))
  | .chan _ .nil _ _ => K (.tu (.c (.nt .i64 (.negSucc 0)) (.c (.bo false) (.c z .nil)))) h
  | _ => false
def vSel (z : AV) : AV → R
  | .ch a => vSelB h K z a (h.get a)
  | _ => false
end
/-! ### operations -/
def kPick (c a b : EO) : KF := fun _ l e h K => vPick l e h K a b (rd l e c)
def kAlloc (z : CV) (ty : Nat) : KF := fun _ _ _ h K => K (.pt h.nx 0) (h.new (.cells z ty true false))
def kBox (ty : Nat) (x : EO) : KF := fun _ l e h K => clK (rd l e x) fun c => K (.pt h.nx 0) (h.new (.cells c ty true false))
def kBuild (z : CV) (ps : Pt) : KF := fun _ l e h K => fill l e (fun c => K (.ag c) h) ps z
def kBsl (ty esz len : Nat) (z : CV) (ps : Pt) : KF := fun _ l e h K => fill l e (fun c => K (.sl h.nx 0 len len true esz) (h.new (.cells c ty true false))) ps z
def kLd1 (a : EO) : KF := fun _ l e h K => vLd1 h K (rd l e a)
def kLdn (n : Nat) (a : EO) : KF := fun _ l e h K => vLdn h K n (rd l e a)
def kSt (n : Nat) (a x : EO) : KF := fun _ l e h K => clK (rd l e x) fun c => vSt h K n c (rd l e a)
def kNil (x : EO) : KF := fun _ l e h K => vNil h K (rd l e x)
def kAdd (x y : EO) : KF := fun _ l e h K => oko h K (bAdd (rd l e x) (rd l e y))
def kSub (x y : EO) : KF := fun _ l e h K => oko h K (bSub (rd l e x) (rd l e y))
def kLss (x y : EO) : KF := fun _ l e h K => oko h K (bBo (vlt (rd l e x) (rd l e y)))
def bNg (neg : Bool) : Option Bool → Option AV
  | some b => some (.bo (bf neg (bf b false true) b)) | none => none
def kEq (f : AV → AV → Option Bool) (neg : Bool) (x y : EO) : KF := fun _ l e h K => oko h K (bNg neg (f (rd l e x) (rd l e y)))
def kBin (op : BinOp) (x y : EO) : KF := fun _ l e h K => oko h K (bin op (rd l e x) (rd l e y))
def kUn (op : UnOp) (x : EO) : KF := fun _ l e h K => oko h K (un op (rd l e x))
def kCvi (k : IntKind) (x : EO) : KF := fun _ l e h K => vCvi h K k (rd l e x)
def okS (esz : Nat) (v : AV) (r : R) : R := match v with
  | .sl _ _ _ _ _ _ => r | .sn => r | .se => r
  | .st _ _ => bf (Nat.beq esz 1) r .no
  | _ => .no
def okD (v : AV) (r : R) : R := match v with
  | .sl _ _ _ _ _ _ => r | .sn => r | .se => r
  | _ => .no
def kS2b (ty : Nat) (x : EO) : KF := fun _ l e h K => vS2b h K ty (rd l e x)
def kB2s (x : EO) : KF := fun _ l e h K => okD (rd l e x) (cells? h 1 (fun c => vStr h K c.bytes) (rd l e x))
def kS2ap (n : Nat) (x : EO) : KF := fun _ l e h K => vS2ap h K n (rd l e x)
def kMkit (t : Nat) (x : EO) : KF := fun _ l e h K => K (.it t (rd l e x)) h
def kMkfn (f : Ps) (a b : List EO) : KF := fun _ l e h K => K (.fn f (rds l e a) (rds l e b)) h
def kMkmap : KF := fun _ _ _ h K => K (.mp h.nx) (h.new (.map [] 0))
def kChan (x : EO) : KF := fun _ l e h K => nat (rd l e x) fun n => bf (Nat.ble n 100000) (K (.ch h.nx) (h.new (.chan n .nil 0 0))) .no
def kMksl (ty esz : Nat) (z : CV) (x y : EO) : KF := fun _ l e h K => nat (rd l e x) fun n => nat (rd l e y) fun c => bf (Nat.ble n c) (bf (Nat.ble c 10000000) (K (.sl h.nx 0 n c true esz) (h.new (.cells (zeros z c) ty true false))) .no) .no
def kSls (x : EO) (lo hi : Option EO) : KF := fun _ l e h K => vSls l e h K lo hi (rd l e x)
def kSla (n esz : Nat) (x : EO) (lo hi mx : Option EO) : KF := fun _ l e h K => vSla l e h K n esz lo hi mx (rd l e x)
def kSlc (esz : Nat) (x : EO) (lo hi mx : Option EO) : KF := fun _ l e h K => vSlc l e h K esz lo hi mx (rd l e x)
def kFa (off : Nat) (x : EO) : KF := fun _ l e h K => vFa h K off (rd l e x)
def kFld (off n : Nat) (agg : Bool) (x : EO) : KF := fun _ l e h K => vPart h K off n agg (rd l e x)
def kIa (n esz : Nat) (x i : EO) : KF := fun _ l e h K => nat (rd l e i) fun i => vIa h K n esz i (rd l e x)
def kIsl (esz : Nat) (x i : EO) : KF := fun _ l e h K => nat (rd l e i) fun i => vIsl h K esz i (rd l e x)
def kIxa (n esz : Nat) (agg : Bool) (x i : EO) : KF := fun _ l e h K => nat (rd l e i) fun i => bf (Nat.ble (Nat.add i 1) n) (vPart h K (Nat.mul i esz) esz agg (rd l e x)) false
def kIxs (x i : EO) : KF := fun _ l e h K => nat (rd l e i) fun i => vIxs h K i (rd l e x)
def kLk (q : Kq) (z : AV) (ok : Bool) (m k : EO) : KF := fun _ l e h K => vLk h K q z ok (rd l e k) (rd l e m)
def kMu (q : Kq) (m k v : EO) : KF := fun _ l e h K => vMu h K q (rd l e k) (rd l e v) (rd l e m)
def kMe (q : Kq) (z : AV) (m k : EO) : KF := fun _ l e h K => vMe h K q z (rd l e k) (rd l e m)
def kEs (m s v : EO) : KF := fun _ l e h K => nat (rd l e s) fun s => vEs h K (rd l e v) s (rd l e m)
def kRng (x : EO) : KF := fun _ l e h K => vRng h K (rd l e x)
def kNxt (x : EO) : KF := fun _ l e h K => vNxt h K (rd l e x)
def kNxt1 (x : EO) : KF := fun _ l e h K => vNxt1 h K (rd l e x)
def entL (b : Nat) (K : AV → R) : List (AV × AV × Nat) → R
  | [] => .no
  | (k, v, c) :: l => bf (Nat.beq c b) (K (.tu (.c k (.c v .nil)))) (entL b K l)
def vEntM (h : HP) (K : Kv) (b last : Nat) : AB → R
  | .map l c => bf (Nat.beq c last) (entL b (fun v => K v h) l) .no
  | _ => .no
def vEntB (h : HP) (K : Kv) : AB → R
  | .miter (some m) _ _ (some b) last => vEntM h K b last (h.get m)
  | _ => .no
def vEnt (h : HP) (K : Kv) : AV → R
  | .pt r 0 => vEntB h K (h.get r)
  | _ => .no
def kEnt (x : EO) : KF := fun _ l e h K => vEnt h K (rd l e x)
def kExt (x : EO) (i : Nat) : KF := fun _ l e h K => vExt h K i (rd l e x)
def kApp (ty esz : Nat) (s x : EO) : KF := fun _ l e h K => okS esz (rd l e x) (ln (fun n => cells? h esz (fun c => appTo h ty esz n c K (rd l e s)) (rd l e x)) (rd l e x))
def kCopy (esz : Nat) (d s : EO) : KF := fun _ l e h K => okS esz (rd l e s) (okD (rd l e d) (ln (fun n => ln (fun m => cells? h esz (fun c => vCopyT h K (Nat.min m n) (Nat.mul (Nat.min m n) esz) c (rd l e d)) (rd l e s)) (rd l e s)) (rd l e d)))
def kDel (q : Kq) (m k : EO) : KF := fun _ l e h K => vDel h K q (rd l e k) (rd l e m)
def kClrm (m : EO) : KF := fun _ l e h K => vClrm h K (rd l e m)
def kClrs (esz : Nat) (z : CV) (s : EO) : KF := fun _ l e h K => vClrs h K esz z (rd l e s)
def kLenA (n : Nat) : KF := fun _ _ _ h K => K (goi n) h
def kLenS (x : EO) : KF := fun _ l e h K => vLenS h K (rd l e x)
def kLenL (x : EO) : KF := fun _ l e h K => vLenL h K (rd l e x)
def kLenM (x : EO) : KF := fun _ l e h K => vLenM h K (rd l e x)
def kLenC (x : EO) : KF := fun _ l e h K => vLenC h K (rd l e x)
def kCap (x : EO) : KF := fun _ l e h K => vCap h K (rd l e x)
def kMnx (mx : Bool) (x y : EO) : KF := fun _ l e h K => vMnx h K mx (rd l e x) (rd l e y)
def kUsd (x : EO) : KF := fun _ l e h K => vUsd h K (rd l e x)
def kUst (x n : EO) : KF := fun _ l e h K => nat (rd l e n) fun n => vUst h K n (rd l e x)
def kCall (f : Ps) (xs : List EO) : KF := fun cl l e h K => cl (.f f) (rds l e xs) h K
def kCallx (f : Ps) (xs : List EO) : KF := fun cl l e h K => cl (.x f) (rds l e xs) h K
def kCallv (f : EO) (xs : List EO) : KF := fun cl l e h K => cl (.v (rd l e f)) (rds l e xs) h K
def kSend (c x : EO) : KF := fun _ l e h K => vSend h K (rd l e x) (rd l e c)
def kRecv (ok : Bool) (c : EO) : KF := fun _ l e h K => vRecv h K ok (rd l e c)
def kSel (z : AV) (c : EO) : KF := fun _ l e h K => vSel h K z (rd l e c)
def vCvs (h : HP) (K : Kv) : AV → R
  | .st n d => K (.st n d) h
  | _ => false
def kCvs (x : EO) : KF := fun _ l e h K => vCvs h K (rd l e x)
def kMkr (x : EO) : KF := fun _ l e h K => nat (rd l e x) fun _ => K (.mp h.nx) (h.new (.map [] 0))
def kK (v : AV) : KF := fun _ _ _ h K => K v h
def kBad : KF := fun _ _ _ _ _ => false

/-! ### running -/
abbrev Ct := Tr AV → Df → HP → R
def dfV (K : LS → Ct) (l : LS) (t : Tr AV) (d : Df) (h : HP) (xs : CV) : AV → R
  | .fn f a b => K (.c .un l) t (.f f (CL.app (CL.app b xs) a) :: d) h
  | _ => false
/-- a guard: y: it is wanted, n: it is not -/
def gd (w : Bool) (y n : R) : AV → R
  | .bo b => bf (bf b w (bf w false true)) y n
  | .ud => n
  | _ => false
def kGd (g : EO) (w : Bool) (k : KF) : KF := fun cl l e h K => gd w (k cl l e h K) (K .ud h) (rd l e g)
def cks (cl : Cl) (l : LS) (t : Tr AV) (h : HP) : List (Nat × KF) → Bool
  | [] => true
  | (j, k) :: r => bf (k cl l t h fun v _ => R.of (AV.same v (LS.nth j l))).is (cks cl l t h r) false
def pks (cl : Cl) (l : LS) (t : Tr AV) (h : HP) : List KF → Bool
  | [] => true
  | k :: r => bf (k cl l t h fun _ _ => .yes).is (pks cl l t h r) false
def runLN (cl : Cl) (K : Ct) : EL → LS → Ct
  | .nil, _, t, d, h => K t d h
  | .m x r, l, t, d, h => runLN cl K r (.c (rd l t x) l) t d h
  | .me p x r, l, t, d, h => runLN cl K r (.c (rd l t x) l) (Tr.set .un (rd l t x) p t) d h
  | .s k r, l, t, d, h => k cl l t h fun v h => runLN cl K r (.c v l) t d h
  | .se p k r, l, t, d, h => k cl l t h fun v h => runLN cl K r (.c v l) (Tr.set .un v p t) d h
  | .gm g w x r, l, t, d, h => gd w (runLN cl K r (.c (rd l t x) l) t d h) (runLN cl K r (.c .ud l) t d h) (rd l t g)
  | .gs g w k r, l, t, d, h => gd w (k cl l t h fun v h => runLN cl K r (.c v l) t d h) (runLN cl K r (.c .ud l) t d h) (rd l t g)
  | .ge g w p k r, l, t, d, h => gd w (k cl l t h fun v h => runLN cl K r (.c v l) (Tr.set .un v p t) d h) (runLN cl K r (.c .ud l) (Tr.set .un .ud p t) d h) (rd l t g)
  | .ck ks r, l, t, d, h => bf (cks cl l t h ks) (runLN cl K r l t d h) false
  | .df f xs r, l, t, d, h => dfV (runLN cl K r) l t d h (rds l t xs) (rd l t f)
  | .dc x r, l, t, d, h => runLN cl K r (.c .un l) t (.cl (rd l t x) :: d) h
  | .pk ks r, l, t, d, h => bf (pks cl l t h ks) (runLN cl K r l t d h) false
def runL (cl : Cl) (K : Ct) (r : EL) : LS → Ct := EL.rec (motive := fun _ => LS → Ct)
  (fun _ => K)
  (fun x _ r l t d h => r (.c (rd l t x) l) t d h)
  (fun p x _ r l t d h => r (.c (rd l t x) l) (Tr.set .un (rd l t x) p t) d h)
  (fun k _ r l t d h => k cl l t h fun v h => r (.c v l) t d h)
  (fun p k _ r l t d h => k cl l t h fun v h => r (.c v l) (Tr.set .un v p t) d h)
  (fun g w x _ r l t d h => gd w (r (.c (rd l t x) l) t d h) (r (.c .ud l) t d h) (rd l t g))
  (fun g w k _ r l t d h => gd w (k cl l t h fun v h => r (.c v l) t d h) (r (.c .ud l) t d h) (rd l t g))
  (fun g w p k _ r l t d h => gd w (k cl l t h fun v h => r (.c v l) (Tr.set .un v p t) d h) (r (.c .ud l) (Tr.set .un .ud p t) d h) (rd l t g))
  (fun ks _ r l t d h => bf (cks cl l t h ks) (r l t d h) false)
  (fun f xs _ r l t d h => dfV r l t d h (rds l t xs) (rd l t f))
  (fun x _ r l t d h => r (.c .un l) t (.cl (rd l t x) :: d) h)
  (fun ks _ r l t d h => bf (pks cl l t h ks) (r l t d h) false) r
structure Xs where
  rt : Ct
  ex : Nat → Ct
def condV (a b : Ct) (t : Tr AV) (d : Df) (h : HP) : AV → R
  | .bo c => bf c (a t d h) (b t d h)
  | _ => false
def loopN (f : Ct → Ct) : Nat → Ct
  | 0 => fun _ _ _ => false
  | n + 1 => f (loopN f n)
def loop (f : Ct → Ct) (n : Nat) : Ct := Nat.rec (motive := fun _ => Ct) (fun _ _ _ => false) (fun _ ih => f ih) n
def jump (X : Xs) (K : Ct) (t : Tr AV) (d : Df) (h : HP) : Option Jp → R
  | none => K t d h
  | some .rt => X.rt t d h
  | some (.ex i) => X.ex i t d h
def rf1 (X : Xs) (K : Ct) (t : Tr AV) (d : Df) (h : HP) (l : Ps) : AB → R
  | .loop false j _ _ _ _ _ => jump X K t d (h.put l .dead) j
  | _ => false
def isFn (r : R) : AV → R
  | .fn _ _ _ => r
  | _ => false
def rf0 (cl : Cl) (X : Xs) (K : Ct) (f : EO) (ps : List Ps) (i j : Nat) : Ct := fun t d h =>
  isFn (cl (.v (rd .nil t f)) (.c (.yl (h.new .defs).nx) .nil) ((h.new .defs).new (.loop false none false t ps i j)) fun _ h' => rf1 X K t (.mk h.nx :: d) h' (h.new .defs).nx (h'.get (h.new .defs).nx)) (rd .nil t f)
def exB (X : Xs) (id : Nat) (K : Ct) (i : Nat) : Ct := fun t d h => bf (Nat.beq i id) (K t d h) (X.ex i t d h)
def runCN (cl : Cl) (n : Nat) : EC → Xs → Ct → Ct
  | .skip, _, K => K
  | .reg l, _, K => runL cl K l .nil
  | .dreg l, _, K => runL cl K l .nil
  | .seq a b, X, K => runCN cl n a X (runCN cl n b X K)
  | .cond x a b, X, K => fun t d h => condV (runCN cl n a X K) (runCN cl n b X K) t d h (rd .nil t x)
  | .block id a, X, K => runCN cl n a ⟨X.rt, exB X id K⟩ K
  | .loop a, X, _ => loop (runCN cl n a X) n
  | .rf f ps i j, X, K => rf0 cl X K f ps i j
  | .exit i, X, _ => X.ex i
  | .scope a, X, K => runCN cl n a X K
  | .ret, X, _ => X.rt
  | .bad, _, _ => fun _ _ _ => false
def runC (cl : Cl) (n : Nat) (c : EC) : Xs → Ct → Ct := EC.rec (motive := fun _ => Xs → Ct → Ct)
  (fun _ K => K) (fun l _ K => runL cl K l .nil) (fun l _ K => runL cl K l .nil)
  (fun _ _ a b X K => a X (b X K))
  (fun x _ _ a b X K t d h => condV (a X K) (b X K) t d h (rd .nil t x))
  (fun id _ a X K => a ⟨X.rt, exB X id K⟩ K)
  (fun _ a X _ => loop (a X) n)
  (fun f ps i j X K => rf0 cl X K f ps i j) (fun i X _ => X.ex i) (fun _ a X K => a X K) (fun X _ => X.rt) (fun _ _ _ _ _ => false) c
def args0 : CV → Ps → Tr AV → Tr AV
  | .nil, _, t => t
  | .c v r, p, t => args0 r p.succ (Tr.set .un v p t)
  | .b _ _ _, _, t => t
def resP (h : HP) (n : Nat) (agg : Bool) (K : AV → R) : AV → R
  | .pt a off => bf agg (lds h a off n fun c => K (.ag c)) (okv (ldcB off (h.get a)) K)
  | _ => false
def resv (h : HP) (t : Tr AV) (K : CV → R) : List (Ps × Option (Nat × Bool)) → R
  | [] => K .nil
  | (p, none) :: r => resv h t (fun c => K (.c (Tr.get .un p t) c)) r
  | (p, some (n, agg)) :: r => resP h n agg (fun v => resv h t (fun c => K (.c v c)) r) (Tr.get .un p t)
def ret1 (h : HP) (K : Kv) : CV → R
  | .c v .nil => K v h
  | c => K (.tu c) h
def vCloseB (h : HP) (K : HP → R) (a : Ps) : AB → R
  | .chan cap b s r => K (h.put a (.shut cap b s r))
  | _ => false
def vClose (h : HP) (K : HP → R) : AV → R
  | .ch a => vCloseB h K a (h.get a)
  | _ => false
def mkB (K : R) : AB → R
  | .defs => K
  | _ => false
def dfs (cl : Cl) (K : HP → R) : Df → HP → R
  | [], h => K h
  | .f f xs :: l, h => cl (.d f) xs h fun _ h => dfs cl K l h
  | .cl v :: l, h => vClose h (dfs cl K l) v
  | .mk b :: l, h => mkB (dfs cl K l (h.put b .dead)) (h.get b)
def fin (cl : Cl) (res : List (Ps × Option (Nat × Bool))) (K : Kv) : Ct := fun t d h => dfs cl (fun h => resv h t (fun c => ret1 h K c) res) d h
structure Pr where
  fs : Tr EF
  cs : Nat → EC
def bodyX (cl : Cl) (res : List (Ps × Option (Nat × Bool))) (K : Kv) : Xs := ⟨fin cl res K, fun _ _ _ _ => false⟩
def sameR (u v : AV) (j k : HP) : Bool := bf (AV.same u v) (HP.same j k) false
def joinR (a : R) (f : AV → HP → R) (K : Kv) : R := match a with
  | .vl v k => R.both (f v k) (K v k)
  | _ => .no
def callF (cl : Cl) (n : Nat) (xs : CV) (h : HP) (K : Kv) : EF → R
  | .none => false
  | .code _ np res body => bf (Nat.ble (CL.len xs) np) (runC cl n body (bodyX cl res K) (fin cl res K) (args0 xs .h .e) [] h) .no
  | .join np res b1 body => bf (Nat.ble (CL.len xs) np) (joinR (runC cl n b1 (bodyX cl res .vl) (fin cl res .vl) (args0 xs .h .e) [] h) (fun v k => runC cl n body (bodyX cl res fun u j => R.of (sameR u v j k)) (fin cl res fun u j => R.of (sameR u v j k)) (args0 xs .h .e) [] h) K) .no
  | .pr g => g xs h K
  | .ext _ => false
/-- what has no body -/
def callX (xs : CV) (h : HP) (K : Kv) : EF → R
  | .ext g => g xs h K
  | _ => false
/-- a deferred call: of a function that defers nothing itself -/
def callD (cl : Cl) (n : Nat) (xs : CV) (h : HP) (K : Kv) : EF → R
  | .code false np res body => callF cl n xs h K (.code false np res body)
  | .join np res b1 body => callF cl n xs h K (.join np res b1 body)
  | _ => false
def setps : List Ps → CV → Tr AV → Tr AV
  | p :: ps, .c v r, t => setps ps r (Tr.set .un v p t)
  | _, _, t => t
def flB : List Ps → CV → Bool
  | [], .nil => true
  | _ :: ps, .c _ r => flB ps r
  | _, _ => false
/-- a round begins, a round ends -/
def begL (h : HP) (l : Ps) (K : HP → R) : AB → R
  | .loop false none false t ps i j => K (h.put l (.loop true none false t ps i j))
  | _ => false
def endL (h : HP) (l : Ps) (q : Option Jp) (d : Bool) (K : HP → R) : AB → R
  | .loop _ _ _ t ps i j => K (h.put l (.loop false q d t ps i j))
  | _ => false
def ylX (l : Ps) (K : Kv) : Xs := ⟨fun _ _ h => endL h l (some .rt) true (K (.bo false)) (h.get l), fun i _ _ h => endL h l (some (.ex i)) true (K (.bo false)) (h.get l)⟩
def ylB (P : Pr) (cl : Cl) (n : Nat) (l : Ps) (xs : CV) (h : HP) (K : Kv) : AB → R
  | .loop false none false t ps i j => bf (flB ps xs)
    (runC cl n (P.cs i) ⟨fun _ _ _ => false, fun _ _ _ _ => false⟩
      (fun u _ h1 => begL h1 l (fun h2 => runC cl n (P.cs j) (ylX l K) (fun _ _ h3 => endL h3 l none false (K (.bo true)) (h3.get l)) u [] h2) (h1.get l))
      (setps ps xs t) [] h) .no
  | _ => false
def callV (P : Pr) (cl : Cl) (n : Nat) (xs : CV) (h : HP) (K : Kv) : AV → R
  | .fn g a b => callF cl n (CL.app (CL.app b xs) a) h K (Tr.get .none g P.fs)
  | .yl l => ylB P cl n l xs h K (h.get l)
  | _ => false
def stepF (P : Pr) (cl : Cl) (n : Nat) (xs : CV) (h : HP) (K : Kv) : Tg → R
  | .f p => callF cl n xs h K (Tr.get .none p P.fs)
  | .d p => callD cl n xs h K (Tr.get .none p P.fs)
  | .x p => callX xs h K (Tr.get .none p P.fs)
  | .v a => callV P cl n xs h K a
def EN (P : Pr) : Nat → Cl
  | 0 => fun _ _ _ _ => false
  | n + 1 => fun f xs h K => stepF P (EN P n) n xs h K f
def E (P : Pr) (n : Nat) : Cl := Nat.rec (motive := fun _ => Cl) (fun _ _ _ _ => false) (fun n ih f xs h K => stepF P ih n xs h K f) n
end
end Ev
