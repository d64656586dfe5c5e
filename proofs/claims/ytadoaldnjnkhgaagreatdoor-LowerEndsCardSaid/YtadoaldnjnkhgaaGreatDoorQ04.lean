/- The walks of code.of at each operation: its shape is the table's. What Encode computes, in plain words; the walks of code.value, Kind, Fields, Name. The plain law of lowering: the ops that instructions become leave the registers and memory as the instructions do. No program in sight. The plain law of lowering, second part: one instruction that is no branch. No program in sight. The plain law of lowering, third part: a whole region. No program in sight. Conditions: as each theorem states. -/
import Derived.Test.YtadoaldnjnkhgaaGreatDoorRows
import Derived.Test.YtadoaldnjnkhgaaGreatDoorQ01
import Derived.Test.YtadoaldnjnkhgaaGreatDoorQ02
import Derived.Test.YtadoaldnjnkhgaaGreatDoorQ03
import Derived.WalkKit
import Derived.WalkSpells
import Derived.WalkLawsBesides
import Derived.Handy
import Derived.StillTailTactics
import Derived.Deep.RegionHeld3
import Derived.Deep.QuietTactic
import Derived.BigQuiet
set_option linter.unusedVariables false
set_option linter.unusedSimpArgs false
namespace Go.Proofs.YtadoaldnjnkhgaaGreatDoor
open Go.RowKit
theorem of_mid (k : Nat) (h1 : 1 ≤ k) (h2 : k < 54) (w : World) :
    Calls Tryz.prog 75 #[.int .i64 (k : Int)] w fun e w' => e = .returned (shapeV (k : Int)) ∧ Below w.heap.size w w' := by
  match k, h1, h2 with
  | 0, h, _ => omega
  | 1, _, _ => exact of_1 w
  | 2, _, _ => exact of_2 w
  | 3, _, _ => exact of_3 w
  | 4, _, _ => exact of_4 w
  | 5, _, _ => exact of_5 w
  | 6, _, _ => exact of_6 w
  | 7, _, _ => exact of_7 w
  | 8, _, _ => exact of_8 w
  | 9, _, _ => exact of_9 w
  | 10, _, _ => exact of_10 w
  | 11, _, _ => exact of_11 w
  | 12, _, _ => exact of_12 w
  | 13, _, _ => exact of_13 w
  | 14, _, _ => exact of_14 w
  | 15, _, _ => exact of_15 w
  | 16, _, _ => exact of_16 w
  | 17, _, _ => exact of_17 w
  | 18, _, _ => exact of_18 w
  | 19, _, _ => exact of_19 w
  | 20, _, _ => exact of_20 w
  | 21, _, _ => exact of_21 w
  | 22, _, _ => exact of_22 w
  | 23, _, _ => exact of_23 w
  | 24, _, _ => exact of_24 w
  | 25, _, _ => exact of_25 w
  | 26, _, _ => exact of_26 w
  | 27, _, _ => exact of_27 w
  | 28, _, _ => exact of_28 w
  | 29, _, _ => exact of_29 w
  | 30, _, _ => exact of_30 w
  | 31, _, _ => exact of_31 w
  | 32, _, _ => exact of_32 w
  | 33, _, _ => exact of_33 w
  | 34, _, _ => exact of_34 w
  | 35, _, _ => exact of_35 w
  | 36, _, _ => exact of_36 w
  | 37, _, _ => exact of_37 w
  | 38, _, _ => exact of_38 w
  | 39, _, _ => exact of_39 w
  | 40, _, _ => exact of_40 w
  | 41, _, _ => exact of_41 w
  | 42, _, _ => exact of_42 w
  | 43, _, _ => exact of_43 w
  | 44, _, _ => exact of_44 w
  | 45, _, _ => exact of_45 w
  | 46, _, _ => exact of_46 w
  | 47, _, _ => exact of_47 w
  | 48, _, _ => exact of_48 w
  | 49, _, _ => exact of_49 w
  | 50, _, _ => exact of_50 w
  | 51, _, _ => exact of_51 w
  | 52, _, _ => exact of_52 w
  | 53, _, _ => exact of_53 w
  | k + 54, _, h => omega
theorem of_any (n : Int) (w : World) :
    Calls Tryz.prog 75 #[.int .i64 n] w fun e w' => e = .returned (shapeV n) ∧ Below w.heap.size w w' := by
  by_cases hl : n ≤ 0
  · exact of_low n hl w
  · by_cases hb : 54 ≤ n
    · exact of_big n hb w
    · obtain ⟨k, rfl⟩ := Int.eq_ofNat_of_zero_le (a := n) (by omega)
      exact of_mid k (by omega) (by omega) w
end Go.Proofs.YtadoaldnjnkhgaaGreatDoor
namespace Go.Proofs.YtadoaldnjnkhgaaGreatDoor
open Go.RowKit
structure InsN.Fits (i : InsN) : Prop where
  o0 : -9223372036854775808 ≤ i.op
  o1 : i.op ≤ 9223372036854775807
  s0 : -9223372036854775808 ≤ i.s
  s1 : i.s ≤ 9223372036854775807
  t0 : -9223372036854775808 ≤ i.t
  t1 : i.t ≤ 9223372036854775807
  d0 : -9223372036854775808 ≤ i.d
  d1 : i.d ≤ 9223372036854775807
  m0 : 0 ≤ i.imm
  m1 : i.imm < 4294967296
def valF (i : InsN) (c : UInt8) : Int := if c = 83 then i.s else if c = 84 then i.t else if c = 68 then i.d else i.imm
def mostF (c : UInt8) : Int := if c = 105 then 65536 else if c = 106 then 67108864 else 32
def termF (i : InsN) (c : UInt8) : Int := if c = 83 then i.s * 2097152 else if c = 84 then i.t * 65536 else if c = 68 then i.d * 2048 else if c = 97 then i.imm * 64 else i.imm
def okF (i : InsN) (c : UInt8) : Bool := decide (0 ≤ valF i c) && decide (valF i c < mostF c)
def encL (i : InsN) (l : List UInt8) : Int := l.foldl (fun w c => bits .or .u32 w (termF i c)) (fixedZ i.op)
theorem encL_snoc (i : InsN) (l : List UInt8) (c : UInt8) : encL i (l ++ [c]) = bits .or .u32 (encL i l) (termF i c) := by simp [encL]
theorem value_83 (i : InsN) (w : World) : Calls Tryz.prog 78 #[insV i, .int .i32 83] w fun e w' => e = .returned (.int .i64 i.s) ∧ Below w.heap.size w w' := by
  go_enter Tryz.func78, Tryz.ntmps78
  go_wp2
  go_ret
  exact ⟨rfl, by go_grown⟩
theorem value_84 (i : InsN) (w : World) : Calls Tryz.prog 78 #[insV i, .int .i32 84] w fun e w' => e = .returned (.int .i64 i.t) ∧ Below w.heap.size w w' := by
  go_enter Tryz.func78, Tryz.ntmps78
  go_wp2
  go_ret
  exact ⟨rfl, by go_grown⟩
theorem value_68 (i : InsN) (w : World) : Calls Tryz.prog 78 #[insV i, .int .i32 68] w fun e w' => e = .returned (.int .i64 i.d) ∧ Below w.heap.size w w' := by
  go_enter Tryz.func78, Tryz.ntmps78
  go_wp2
  go_ret
  exact ⟨rfl, by go_grown⟩
theorem value_imm (i : InsN) (c : Int) (hc : 97 ≤ c) (m0 : 0 ≤ i.imm) (m1 : i.imm < 4294967296) (w : World) : Calls Tryz.prog 78 #[insV i, .int .i32 c] w fun e w' => e = .returned (.int .i64 i.imm) ∧ Below w.heap.size w w' := by
  go_enter Tryz.func78, Tryz.ntmps78
  go_wp2
  go_ret
  exact ⟨rfl, by go_grown⟩
theorem of_agg (n : Int) (w : World) : Calls Tryz.prog 75 #[.int .i64 n] w fun e w' => e = .returned (.agg #[.string (nameS n), .int .u32 (majorZ n), .int .u32 (minorZ n), .string (fieldsS n), .string (kindS n)]) ∧ Below w.heap.size w w' := of_any n w
theorem kind_any (n : Int) (h : n ≠ 0) (w : World) : Calls Tryz.prog 44 #[.int .i64 n] w fun e w' => e = .returned (.string (kindS n)) ∧ Below w.heap.size w w' := by
  have h' : (n == 0) = false := beq_eq_false_iff_ne.2 h
  have hfd : ∀ w : World, (Instr.field 157 (.agg #[.string (nameS n), .int .u32 (majorZ n), .int .u32 (minorZ n), .string (fieldsS n), .string (kindS n)]) 4).run Tryz.prog w = .ok (.string (kindS n)) w := fun _ => by kernel_rfl
  go_enter Tryz.func44, Tryz.ntmps44
  go_wp2_with (go_at_call 75; refine (of_agg _ _).mono ?_; rintro e w1 ⟨rfl, hb1⟩)
  go_ret
  exact ⟨rfl, hb1⟩
theorem kind_0 (w : World) : Calls Tryz.prog 44 #[.int .i64 0] w fun e w' => e = .returned (.string ⟨#[116, 114, 97, 112]⟩) ∧ w = w' := by
  go_enter Tryz.func44, Tryz.ntmps44
  go_wp2
  go_ret
  exact ⟨rfl, rfl⟩
def kindOfB (n : Int) : List UInt8 := if n = 0 then [116, 114, 97, 112] else kindB n.toNat
theorem kindOf_any (n : Int) (w : World) : Calls Tryz.prog 44 #[.int .i64 n] w fun e w' => e = .returned (.string (bsl (kindOfB n))) ∧ Below w.heap.size w w' := by
  by_cases h : n = 0
  · subst h
    exact (kind_0 w).mono fun e w' ⟨a, b⟩ => ⟨a, by subst b; exact Below.refl _ _⟩
  · unfold kindOfB
    rw [if_neg h]
    exact kind_any n h w
end Go.Proofs.YtadoaldnjnkhgaaGreatDoor
namespace Go.Proofs.YtadoaldnjnkhgaaGreatDoor
open Go.RowKit
inductive OpK where
  | set | copy | overP | overM | load | store | cond | out | outr | add | sub | and | or | xor | nor | slt | sltu | shl | shr | sar | mul | mulh | mulhu | quo | rem | quou | remu
  deriving DecidableEq
structure OpN where
  kind : OpK
  d : Nat
  a : Nat
  b : Int
  imm : Int
  at' : Nat
abbrev Regs := Nat → Int
def updR (f : Regs) (d : Nat) (v : Int) : Regs := fun k => if k = d then v else f k
theorem updR_same (f : Regs) (d : Nat) (v : Int) : updR f d v d = v := if_pos rfl
theorem updR_other (f : Regs) {d k : Nat} (v : Int) (h : k ≠ d) : updR f d v k = f k := if_neg h
def wideS (v : Int) : Int := (if 65536 ≤ 2 * (v % 65536) then v % 65536 - 65536 else v % 65536) % 4294967296
def mulZ (a b : Int) (signed : Bool) : Int × Int :=
  if signed = true then ((wrap32 a * wrap32 b) / 4294967296 % 4294967296, (wrap32 a * wrap32 b) % 4294967296) else (a * b / 4294967296 % 4294967296, a * b % 4294967296)
def divZ (a b : Int) (signed : Bool) : Option (Int × Int) :=
  if b = 0 then none else if signed = true then some ((wrap32 a).tdiv (wrap32 b) % 4294967296, (wrap32 a).tmod (wrap32 b) % 4294967296) else some (a / b, a % b)
def bitsN (t : Nat) : Nat → Nat → Nat → Nat
  | 0, _, _ => 0
  | n + 1, x, y => t / 2 ^ (2 * (x % 2) + y % 2) % 2 + 2 * bitsN t n (x / 2) (y / 2)
def bitsZ (t : Nat) (a b : Int) : Int := ((bitsN t 32 a.toNat b.toNat : Nat) : Int)
theorem bitsN_lt (t : Nat) : ∀ n x y, bitsN t n x y < 2 ^ n
  | 0, _, _ => by simp [bitsN]
  | n + 1, x, y => by
    have := bitsN_lt t n (x / 2) (y / 2)
    have h2 : t / 2 ^ (2 * (x % 2) + y % 2) % 2 < 2 := Nat.mod_lt _ (by decide)
    unfold bitsN
    rw [Nat.pow_succ]
    omega
theorem bits_xor : ∀ n x y, bitsN 6 n x y = 0 ↔ x % 2 ^ n = y % 2 ^ n
  | 0, x, y => by simp [bitsN, Nat.mod_one]
  | n + 1, x, y => by
    have ih := bits_xor n (x / 2) (y / 2)
    have h : 6 / 2 ^ (2 * (x % 2) + y % 2) % 2 = if x % 2 = y % 2 then 0 else 1 := by
      rcases Nat.mod_two_eq_zero_or_one x with a | a <;> rcases Nat.mod_two_eq_zero_or_one y with b | b <;> rw [a, b] <;> rfl
    have m1 : x % 2 ^ (n + 1) = x % 2 + 2 * (x / 2 % 2 ^ n) := by rw [Nat.pow_succ, Nat.mul_comm, Nat.mod_mul]
    have m2 : y % 2 ^ (n + 1) = y % 2 + 2 * (y / 2 % 2 ^ n) := by rw [Nat.pow_succ, Nat.mul_comm, Nat.mod_mul]
    unfold bitsN
    rw [h, m1, m2]
    by_cases e : x % 2 = y % 2
    · rw [if_pos e]
      constructor
      · intro h0
        have := ih.1 (by omega)
        omega
      · intro h0
        have := ih.2 (by omega)
        omega
    · rw [if_neg e]
      constructor
      · intro h0; omega
      · intro h0
        have hx := Nat.mod_lt x (show 0 < 2 by decide)
        have hy := Nat.mod_lt y (show 0 < 2 by decide)
        omega
theorem xor_zero {a b : Int} (a0 : 0 ≤ a) (a1 : a < 4294967296) (b0 : 0 ≤ b) (b1 : b < 4294967296) : bitsZ 6 a b = 0 ↔ a = b := by
  unfold bitsZ
  have h := bits_xor 32 a.toNat b.toNat
  rw [Nat.mod_eq_of_lt (by omega), Nat.mod_eq_of_lt (by omega)] at h
  constructor
  · intro e
    have := h.1 (by omega)
    omega
  · intro e
    have := h.2 (by omega)
    omega
def shlZ (a n : Int) : Int := a * 2 ^ (n % 32).toNat % 4294967296
def shrZ (a n : Int) : Int := a / 2 ^ (n % 32).toNat
def sarZ (a n : Int) : Int := wrap32 a / 2 ^ (n % 32).toNat % 4294967296
def bitZ (b : Bool) : Int := if b = true then 1 else 0
def sumZ (k : OpK) (a b : Int) : Int := match k with
  | .add => (a + b) % 4294967296
  | .sub => (a - b) % 4294967296
  | .and => bitsZ 8 a b
  | .or => bitsZ 14 a b
  | .xor => bitsZ 6 a b
  | .nor => bitsZ 1 a b
  | .shl => shlZ a b
  | .shr => shrZ a b
  | .sar => sarZ a b
  | .slt => bitZ (decide (wrap32 a < wrap32 b))
  | .sltu => bitZ (decide (a < b))
  | .mul => (mulZ a b false).2
  | .mulh => (mulZ a b true).1
  | _ => (mulZ a b false).1
def fitsZ (v : Int) : Bool := decide (-2147483648 ≤ v ∧ v < 2147483648)
def byteAt (ws : List Int) (a : Nat) : Int := ws.getD (a / 4) 0 / 2 ^ (24 - 8 * (a % 4)) % 256
def putByte (ws : List Int) (a : Nat) (v : Int) : List Int := ws.set (a / 4) ((ws.getD (a / 4) 0 - byteAt ws a * 2 ^ (24 - 8 * (a % 4)) + v * 2 ^ (24 - 8 * (a % 4))) % 4294967296)
def loadN (ws : List Int) (a : Nat) : Nat → Int
  | 0 => 0
  | n + 1 => 256 * loadN ws a n + byteAt ws (a + n)
def storeN (a n : Nat) (v : Int) : Nat → List Int → List Int
  | 0, ws => ws
  | m + 1, ws => putByte (storeN a n v m ws) (a + m) (v / 2 ^ (8 * (n - 1 - m)) % 256)
def reach (a : Int) (n : Nat) : Bool := decide (a % n = 0 ∧ a < 16384)
def wideZ (v : Int) (n : Nat) (signed : Bool) : Int := if n = 4 then v else (if signed = true ∧ (2 : Int) ^ (8 * n) ≤ 2 * (v % 2 ^ (8 * n)) then v % 2 ^ (8 * n) - 2 ^ (8 * n) else v % 2 ^ (8 * n)) % 4294967296
inductive Ran where
  | trap (at' : Nat)
  | leave (pc : Int) (X : Regs) (ws : List Int)
  | fell
def evalZ (watch : Nat → Bool) : List OpN → Regs → List Int → Ran
  | [], _, _ => .fell
  | o :: os, X, ws => match o.kind with
    | .set => evalZ watch os (updR X o.d o.imm) ws
    | .copy => evalZ watch os (updR X o.d (X o.a)) ws
    | .overP => if fitsZ (wrap32 (X o.a) + wrap32 (X o.b.toNat)) = true then evalZ watch os X ws else .trap o.at'
    | .overM => if fitsZ (wrap32 (X o.a) - wrap32 (X o.b.toNat)) = true then evalZ watch os X ws else .trap o.at'
    | .load => if reach ((X o.a + o.imm) % 4294967296) o.b.natAbs = true then evalZ watch os (updR X o.d (wideZ (loadN ws ((X o.a + o.imm) % 4294967296).toNat o.b.natAbs) o.b.natAbs (decide (o.b < 0)))) ws else .trap o.at'
    | .store => if reach ((X o.a + o.imm) % 4294967296) o.d = true ∧ watch (((X o.a + o.imm) % 4294967296).toNat / 256) = false then evalZ watch os X (storeN ((X o.a + o.imm) % 4294967296).toNat o.d (X o.b.toNat) o.d ws) else .trap o.at'
    | .cond => if X o.a ≠ 0 then .leave o.imm X ws else evalZ watch os X ws
    | .out => .leave o.imm X ws
    | .outr => .leave (X o.a) X ws
    | .quo => match divZ (X o.a) (X o.b.toNat) true with | some r => evalZ watch os (updR X o.d r.1) ws | none => evalZ watch os X ws
    | .rem => match divZ (X o.a) (X o.b.toNat) true with | some r => evalZ watch os (updR X o.d r.2) ws | none => evalZ watch os X ws
    | .quou => match divZ (X o.a) (X o.b.toNat) false with | some r => evalZ watch os (updR X o.d r.1) ws | none => evalZ watch os X ws
    | .remu => match divZ (X o.a) (X o.b.toNat) false with | some r => evalZ watch os (updR X o.d r.2) ws | none => evalZ watch os X ws
    | k => evalZ watch os (updR X o.d (sumZ k (X o.a) (X o.b.toNat))) ws
/-! What instructions become. -/
def sumOp (k : OpK) (d a b : Nat) (n : Nat) : List OpN := if d = 0 then [] else [⟨k, d, a, (b : Int), 0, n⟩]
def setOp (d : Nat) (v : Int) (n : Nat) : List OpN := if d = 0 then [] else [⟨.set, d, 0, 0, v, n⟩]
def copyOp (d a : Nat) (n : Nat) : List OpN := if d = 0 then [] else [⟨.copy, d, a, 0, 0, n⟩]
def sumK (op : Nat) : OpK := match op with
  | 19 => .add | 20 => .add | 35 => .add | 36 => .add | 21 => .sub | 22 => .sub | 23 => .and | 39 => .and | 24 => .or | 40 => .or | 25 => .xor | 41 => .xor | 26 => .nor
  | 27 => .slt | 37 => .slt | 28 => .sltu | 38 => .sltu | 1 => .shl | 4 => .shl | 2 => .shr | 5 => .shr | 3 => .sar | 6 => .sar | _ => .add
def sizeN (op : Nat) : Nat := match op with
  | 46 => 1 | 47 => 2 | 49 => 1 | 51 => 1 | 50 => 2 | 52 => 2 | _ => 4
def lowIns (op s t d : Nat) (m : Int) (n : Nat) : List OpN := match op with
  | 42 => setOp t (m * 65536 % 4294967296) n
  | 1 => setOp 34 m n ++ sumOp .shl d t 34 n
  | 2 => setOp 34 m n ++ sumOp .shr d t 34 n
  | 3 => setOp 34 m n ++ sumOp .sar d t 34 n
  | 4 => sumOp .shl d t s n
  | 5 => sumOp .shr d t s n
  | 6 => sumOp .sar d t s n
  | 15 => [⟨.mulh, 32, s, (t : Int), 0, n⟩, ⟨.mul, 33, s, (t : Int), 0, n⟩]
  | 16 => [⟨.mulhu, 32, s, (t : Int), 0, n⟩, ⟨.mul, 33, s, (t : Int), 0, n⟩]
  | 17 => [⟨.quo, 33, s, (t : Int), 0, n⟩, ⟨.rem, 32, s, (t : Int), 0, n⟩]
  | 18 => [⟨.quou, 33, s, (t : Int), 0, n⟩, ⟨.remu, 32, s, (t : Int), 0, n⟩]
  | 11 => copyOp d 32 n
  | 13 => copyOp d 33 n
  | 12 => copyOp 32 s n
  | 14 => copyOp 33 s n
  | 39 => setOp 34 m n ++ sumOp .and t s 34 n
  | 40 => setOp 34 m n ++ sumOp .or t s 34 n
  | 41 => setOp 34 m n ++ sumOp .xor t s 34 n
  | 35 => setOp 34 (wideS m) n ++ (⟨.overP, 0, s, 34, 0, n⟩ :: sumOp .add t s 34 n)
  | 36 => setOp 34 (wideS m) n ++ sumOp .add t s 34 n
  | 37 => setOp 34 (wideS m) n ++ sumOp .slt t s 34 n
  | 38 => setOp 34 (wideS m) n ++ sumOp .sltu t s 34 n
  | 19 => ⟨.overP, 0, s, (t : Int), 0, n⟩ :: sumOp .add d s t n
  | 21 => ⟨.overM, 0, s, (t : Int), 0, n⟩ :: sumOp .sub d s t n
  | 46 => [⟨.load, if t = 0 then 34 else t, s, -1, wideS m, n⟩]
  | 47 => [⟨.load, if t = 0 then 34 else t, s, -2, wideS m, n⟩]
  | 48 => [⟨.load, if t = 0 then 34 else t, s, 4, wideS m, n⟩]
  | 49 => [⟨.load, if t = 0 then 34 else t, s, 1, wideS m, n⟩]
  | 50 => [⟨.load, if t = 0 then 34 else t, s, 2, wideS m, n⟩]
  | 51 => [⟨.store, 1, s, (t : Int), wideS m, n⟩]
  | 52 => [⟨.store, 2, s, (t : Int), wideS m, n⟩]
  | 53 => [⟨.store, 4, s, (t : Int), wideS m, n⟩]
  | k => sumOp (sumK k) d s t n
def lowBr (pc : Int) (op s t d : Nat) (n : Nat) : List OpN := match op with
  | 31 => [⟨.xor, 34, s, (t : Int), 0, n⟩, ⟨.set, 35, 0, 0, 1, n⟩, ⟨.sltu, 36, 34, 35, 0, n⟩]
  | 32 => [⟨.xor, 36, s, (t : Int), 0, n⟩]
  | 33 => [⟨.set, 35, 0, 0, 1, n⟩, ⟨.slt, 36, s, 35, 0, n⟩]
  | 34 => [⟨.slt, 36, 0, (s : Int), 0, n⟩]
  | 30 => setOp 31 ((pc + 4 * (n : Int) + 8) % 4294967296) n
  | 7 => [⟨.copy, 37, s, 0, 0, n⟩]
  | 8 => ⟨.copy, 37, s, 0, 0, n⟩ :: setOp d ((pc + 4 * (n : Int) + 8) % 4294967296) n
  | _ => []
def lowLv (p : Int) (op : Nat) (m : Int) (n : Nat) : List OpN := match op with
  | 29 => [⟨.out, 0, 0, 0, (p + 4) % 4294967296 / 268435456 * 268435456 + 4 * m, n⟩]
  | 30 => [⟨.out, 0, 0, 0, (p + 4) % 4294967296 / 268435456 * 268435456 + 4 * m, n⟩]
  | 7 => [⟨.outr, 0, 37, 0, 0, n⟩]
  | 8 => [⟨.outr, 0, 37, 0, 0, n⟩]
  | _ => [⟨.cond, 0, 36, 0, (p + 4 + wideS m * 4) % 4294967296, n⟩, ⟨.out, 0, 0, 0, (p + 8) % 4294967296, n⟩]
/-! What instructions do. -/
structure GS where
  r : Regs
  hi : Int
  lo : Int
  pc : Int
  next : Int
  slot : Bool
def doZ (watch : Nat → Bool) (op s t d : Nat) (m : Int) (g : GS) (ws : List Int) (h : Bool) : Option (Regs × Int × Int × List Int × Bool) :=
  let x := g.r s
  let y := g.r t
  match op with
  | 11 => some (updR g.r d g.hi, g.hi, g.lo, ws, h)
  | 13 => some (updR g.r d g.lo, g.hi, g.lo, ws, h)
  | 12 => some (g.r, x, g.lo, ws, h)
  | 14 => some (g.r, g.hi, x, ws, h)
  | 15 => some (g.r, (mulZ x y true).1, (mulZ x y true).2, ws, h)
  | 16 => some (g.r, (mulZ x y false).1, (mulZ x y false).2, ws, h)
  | 17 => match divZ x y true with | some r => some (g.r, r.2, r.1, ws, h) | none => some (g.r, g.hi, g.lo, ws, h)
  | 18 => match divZ x y false with | some r => some (g.r, r.2, r.1, ws, h) | none => some (g.r, g.hi, g.lo, ws, h)
  | 42 => some (updR g.r t (shlZ m 16), g.hi, g.lo, ws, h)
  | 1 => some (updR g.r d (sumZ .shl y m), g.hi, g.lo, ws, h)
  | 2 => some (updR g.r d (sumZ .shr y m), g.hi, g.lo, ws, h)
  | 3 => some (updR g.r d (sumZ .sar y m), g.hi, g.lo, ws, h)
  | 4 => some (updR g.r d (sumZ .shl y x), g.hi, g.lo, ws, h)
  | 5 => some (updR g.r d (sumZ .shr y x), g.hi, g.lo, ws, h)
  | 6 => some (updR g.r d (sumZ .sar y x), g.hi, g.lo, ws, h)
  | 39 => some (updR g.r t (sumZ .and x m), g.hi, g.lo, ws, h)
  | 40 => some (updR g.r t (sumZ .or x m), g.hi, g.lo, ws, h)
  | 41 => some (updR g.r t (sumZ .xor x m), g.hi, g.lo, ws, h)
  | 35 => if fitsZ (wrap32 x + wrap32 (wideS m)) = true then some (updR g.r t (sumZ .add x (wideS m)), g.hi, g.lo, ws, h) else none
  | 36 => some (updR g.r t (sumZ .add x (wideS m)), g.hi, g.lo, ws, h)
  | 37 => some (updR g.r t (sumZ .slt x (wideS m)), g.hi, g.lo, ws, h)
  | 38 => some (updR g.r t (sumZ .sltu x (wideS m)), g.hi, g.lo, ws, h)
  | 19 => if fitsZ (wrap32 x + wrap32 y) = true then some (updR g.r d (sumZ .add x y), g.hi, g.lo, ws, h) else none
  | 21 => if fitsZ (wrap32 x - wrap32 y) = true then some (updR g.r d (sumZ .sub x y), g.hi, g.lo, ws, h) else none
  | 46 => if reach ((x + wideS m) % 4294967296) 1 = true then some (updR g.r t (wideZ (loadN ws ((x + wideS m) % 4294967296).toNat 1) 1 true), g.hi, g.lo, ws, h) else none
  | 47 => if reach ((x + wideS m) % 4294967296) 2 = true then some (updR g.r t (wideZ (loadN ws ((x + wideS m) % 4294967296).toNat 2) 2 true), g.hi, g.lo, ws, h) else none
  | 48 => if reach ((x + wideS m) % 4294967296) 4 = true then some (updR g.r t (wideZ (loadN ws ((x + wideS m) % 4294967296).toNat 4) 4 false), g.hi, g.lo, ws, h) else none
  | 49 => if reach ((x + wideS m) % 4294967296) 1 = true then some (updR g.r t (wideZ (loadN ws ((x + wideS m) % 4294967296).toNat 1) 1 false), g.hi, g.lo, ws, h) else none
  | 50 => if reach ((x + wideS m) % 4294967296) 2 = true then some (updR g.r t (wideZ (loadN ws ((x + wideS m) % 4294967296).toNat 2) 2 false), g.hi, g.lo, ws, h) else none
  | 51 => if reach ((x + wideS m) % 4294967296) 1 = true then some (g.r, g.hi, g.lo, storeN ((x + wideS m) % 4294967296).toNat 1 y 1 ws, h || watch (((x + wideS m) % 4294967296).toNat / 256)) else none
  | 52 => if reach ((x + wideS m) % 4294967296) 2 = true then some (g.r, g.hi, g.lo, storeN ((x + wideS m) % 4294967296).toNat 2 y 2 ws, h || watch (((x + wideS m) % 4294967296).toNat / 256)) else none
  | 53 => if reach ((x + wideS m) % 4294967296) 4 = true then some (g.r, g.hi, g.lo, storeN ((x + wideS m) % 4294967296).toNat 4 y 4 ws, h || watch (((x + wideS m) % 4294967296).toNat / 256)) else none
  | k => some (updR g.r d (sumZ (sumK k) x y), g.hi, g.lo, ws, h)
structure Agree (X : Regs) (r : Regs) (hi lo : Int) : Prop where
  zero : X 0 = 0
  reg : ∀ k, 1 ≤ k → k < 32 → X k = r k
  h : X 32 = hi
  l : X 33 = lo
theorem Agree.at0 {X r : Regs} {hi lo : Int} (h : Agree X r hi lo) (hr : r 0 = 0) {k : Nat} (hk : k < 32) : X k = r k := by
  by_cases e : k = 0
  · subst e; rw [h.zero, hr]
  · exact h.reg k (by omega) hk
theorem Agree.tmp {X r : Regs} {hi lo : Int} (h : Agree X r hi lo) {d : Nat} (hd : 33 < d) (v : Int) : Agree (updR X d v) r hi lo :=
  ⟨(updR_other _ _ (by omega)).trans h.zero, fun k h1 h2 => (updR_other _ _ (by omega)).trans (h.reg k h1 h2), (updR_other _ _ (by omega)).trans h.h, (updR_other _ _ (by omega)).trans h.l⟩
theorem Agree.put {X r : Regs} {hi lo : Int} (h : Agree X r hi lo) {d : Nat} (hd : d ≠ 0) (hd2 : d < 32) (v : Int) : Agree (updR X d v) (updR (updR r d v) 0 0) hi lo where
  zero := (updR_other _ _ (by omega)).trans h.zero
  reg k h1 h2 := by
    rw [updR_other _ _ (show k ≠ 0 by omega)]
    by_cases e : k = d
    · subst e; rw [updR_same, updR_same]
    · rw [updR_other _ _ e, updR_other _ _ e]; exact h.reg k h1 h2
  h := (updR_other _ _ (by omega)).trans h.h
  l := (updR_other _ _ (by omega)).trans h.l
theorem Agree.put0 {X r : Regs} {hi lo : Int} (h : Agree X r hi lo) (v : Int) : Agree X (updR (updR r 0 v) 0 0) hi lo :=
  ⟨h.zero, fun k h1 h2 => by rw [updR_other _ _ (show k ≠ 0 by omega), updR_other _ _ (show k ≠ 0 by omega)]; exact h.reg k h1 h2, h.h, h.l⟩
theorem Agree.zero' {X r : Regs} {hi lo : Int} (h : Agree X r hi lo) : Agree X (updR r 0 0) hi lo :=
  ⟨h.zero, fun k h1 h2 => by rw [updR_other _ _ (show k ≠ 0 by omega)]; exact h.reg k h1 h2, h.h, h.l⟩
end Go.Proofs.YtadoaldnjnkhgaaGreatDoor
namespace Go.Proofs.YtadoaldnjnkhgaaGreatDoor
open Go.RowKit
def isSumK (k : OpK) : Bool := match k with
  | .add => true | .sub => true | .and => true | .or => true | .xor => true | .nor => true | .slt => true | .sltu => true | .shl => true | .shr => true | .sar => true | .mul => true | .mulh => true | .mulhu => true
  | _ => false
theorem evalZ_sum {watch : Nat → Bool} {k : OpK} (hk : isSumK k = true) (d a : Nat) (b : Int) (m : Int) (n : Nat) (os : List OpN) (X : Regs) (ws : List Int) :
    evalZ watch (⟨k, d, a, b, m, n⟩ :: os) X ws = evalZ watch os (updR X d (sumZ k (X a) (X b.toNat))) ws := by
  cases k <;> first | rfl | cases hk
def Goes (watch : Nat → Bool) (ops os : List OpN) (X : Regs) (ws : List Int) (r : Regs) (hi lo : Int) (ws' : List Int) : Prop :=
  ∃ X', Agree X' (updR r 0 0) hi lo ∧ (∀ k, 34 < k → X' k = X k) ∧ evalZ watch (ops ++ os) X ws = evalZ watch os X' ws'
theorem goes_sum {watch : Nat → Bool} {k : OpK} (hk : isSumK k = true) {d a b n : Nat} (hd : d < 32) {os : List OpN} {X r : Regs} {hi lo : Int} {ws : List Int} (hA : Agree X r hi lo) {v : Int} (hv : sumZ k (X a) (X b) = v) :
    Goes watch (sumOp k d a b n) os X ws (updR r d v) hi lo ws := by
  by_cases h0 : d = 0
  · subst h0
    exact ⟨X, hA.put0 v, fun _ _ => rfl, rfl⟩
  · refine ⟨updR X d v, hA.put h0 hd v, fun j hj => updR_other _ _ (by omega), ?_⟩
    unfold sumOp
    rw [if_neg h0, List.cons_append, List.nil_append, evalZ_sum hk, Int.toNat_natCast, hv]
theorem goes_set {watch : Nat → Bool} {d n : Nat} (hd : d < 32) {os : List OpN} {X r : Regs} {hi lo : Int} {ws : List Int} (hA : Agree X r hi lo) (v : Int) : Goes watch (setOp d v n) os X ws (updR r d v) hi lo ws := by
  by_cases h0 : d = 0
  · subst h0
    exact ⟨X, hA.put0 v, fun _ _ => rfl, rfl⟩
  · refine ⟨updR X d v, hA.put h0 hd v, fun j hj => updR_other _ _ (by omega), ?_⟩
    unfold setOp
    rw [if_neg h0]
    rfl
theorem goes_copy {watch : Nat → Bool} {d a n : Nat} (hd : d < 32) {os : List OpN} {X r : Regs} {hi lo : Int} {ws : List Int} (hA : Agree X r hi lo) {v : Int} (hv : X a = v) : Goes watch (copyOp d a n) os X ws (updR r d v) hi lo ws := by
  by_cases h0 : d = 0
  · subst h0
    exact ⟨X, hA.put0 v, fun _ _ => rfl, rfl⟩
  · refine ⟨updR X d v, hA.put h0 hd v, fun j hj => updR_other _ _ (by omega), ?_⟩
    unfold copyOp
    rw [if_neg h0, ← hv]
    rfl
theorem goes_34 {watch : Nat → Bool} {v : Int} {n : Nat} {ops os : List OpN} {X r : Regs} {hi lo : Int} {ws ws' : List Int} (h : Goes watch ops os (updR X 34 v) ws r hi lo ws') : Goes watch (setOp 34 v n ++ ops) os X ws r hi lo ws' := by
  obtain ⟨X', h1, h2, h3⟩ := h
  refine ⟨X', h1, fun k hk => (h2 k hk).trans (updR_other _ _ (by omega)), ?_⟩
  rw [← h3]
  rfl
theorem wrap_mod (a : Int) : wrap32 a % 4294967296 = a % 4294967296 := by unfold wrap32; omega
theorem mul_low (a b : Int) : (mulZ a b false).2 = (mulZ a b true).2 := by
  show a * b % 4294967296 = (wrap32 a * wrap32 b) % 4294967296
  rw [Int.mul_emod, Int.mul_emod (wrap32 a), wrap_mod, wrap_mod]
def plainOp (op : Nat) : Bool := decide (1 ≤ op ∧ op < 54) && !([7, 8, 9, 10, 29, 30, 31, 32, 33, 34, 43, 44, 45].contains op)
theorem plain_cases {op : Nat} (h : plainOp op = true) : op ∈ [1, 2, 3, 4, 5, 6, 11, 12, 13, 14, 15, 16, 17, 18, 19, 20, 21, 22, 23, 24, 25, 26, 27, 28, 35, 36, 37, 38, 39, 40, 41, 42, 46, 47, 48, 49, 50, 51, 52, 53] := by
  have h1 : op < 54 := by
    unfold plainOp at h
    rw [Bool.and_eq_true, decide_eq_true_eq] at h
    exact h.1.2
  have all : ∀ k, k < 54 → (plainOp k = true → k ∈ [1, 2, 3, 4, 5, 6, 11, 12, 13, 14, 15, 16, 17, 18, 19, 20, 21, 22, 23, 24, 25, 26, 27, 28, 35, 36, 37, 38, 39, 40, 41, 42, 46, 47, 48, 49, 50, 51, 52, 53]) := by decide +kernel
  exact all op h1 h
def InsGoes (watch : Nat → Bool) (op s t d : Nat) (m : Int) (n : Nat) (os : List OpN) (X : Regs) (g : GS) (ws : List Int) : Prop :=
  match doZ watch op s t d m g ws false with
  | none => evalZ watch (lowIns op s t d m n ++ os) X ws = .trap n
  | some (r', hi', lo', ws', h') => if h' = true then evalZ watch (lowIns op s t d m n ++ os) X ws = .trap n else Goes watch (lowIns op s t d m n) os X ws r' hi' lo' ws'
theorem goes_load {watch : Nat → Bool} {t s n : Nat} {b : Int} {m : Int} (ht : t < 32) {os : List OpN} {X : Regs} {g : GS} {ws : List Int} (hA : Agree X g.r g.hi g.lo) (hs : X s = g.r s) {v : Int} {z : Nat} (hz : b.natAbs = z) {sg : Bool} (hsg : decide (b < 0) = sg)
    (hr : reach ((g.r s + wideS m) % 4294967296) z = true) (hv : wideZ (loadN ws ((g.r s + wideS m) % 4294967296).toNat z) z sg = v) :
    Goes watch [⟨.load, if t = 0 then 34 else t, s, b, wideS m, n⟩] os X ws (updR g.r t v) g.hi g.lo ws := by
  subst hz hsg
  have he : evalZ watch ([⟨.load, if t = 0 then 34 else t, s, b, wideS m, n⟩] ++ os) X ws = evalZ watch os (updR X (if t = 0 then 34 else t) v) ws := by
    show (if _ then _ else _) = _
    rw [hs, if_pos hr, hv]
    rfl
  by_cases h0 : t = 0
  · subst h0
    refine ⟨updR X 34 v, (hA.tmp (by decide) v).put0 v, fun k hk => updR_other _ _ (by omega), he⟩
  · rw [if_neg h0] at he
    refine ⟨updR X t v, hA.put h0 ht v, fun k hk => updR_other _ _ (by omega), ?_⟩
    rw [if_neg h0]
    exact he
theorem load_trap {watch : Nat → Bool} {t s n : Nat} {b : Int} {m : Int} {os : List OpN} {X : Regs} {g : GS} {ws : List Int} (hs : X s = g.r s) {z : Nat} (hz : b.natAbs = z) (hr : ¬ reach ((g.r s + wideS m) % 4294967296) z = true) :
    evalZ watch ([⟨.load, if t = 0 then 34 else t, s, b, wideS m, n⟩] ++ os) X ws = .trap n := by
  subst hz
  show (if _ then _ else _) = _
  rw [hs, if_neg hr]
theorem low_load {watch : Nat → Bool} {op t s d n : Nat} {b : Int} {m : Int} (ht : t < 32) {os : List OpN} {X : Regs} {g : GS} {ws : List Int} (hA : Agree X g.r g.hi g.lo) (hs : X s = g.r s) {z : Nat} (hz : b.natAbs = z) {sg : Bool} (hsg : decide (b < 0) = sg)
    (hd : doZ watch op s t d m g ws false = if reach ((g.r s + wideS m) % 4294967296) z = true then some (updR g.r t (wideZ (loadN ws ((g.r s + wideS m) % 4294967296).toNat z) z sg), g.hi, g.lo, ws, false) else none)
    (hl : lowIns op s t d m n = [⟨.load, if t = 0 then 34 else t, s, b, wideS m, n⟩]) : InsGoes watch op s t d m n os X g ws := by
  unfold InsGoes
  rw [hd, hl]
  by_cases hr : reach ((g.r s + wideS m) % 4294967296) z = true
  · rw [if_pos hr]
    show (if (false = true) then _ else _)
    rw [if_neg (by decide)]
    exact goes_load ht hA hs hz hsg hr rfl
  · rw [if_neg hr]
    exact load_trap hs hz hr
theorem low_store {watch : Nat → Bool} {op t s d n : Nat} {m : Int} {os : List OpN} {X : Regs} {g : GS} {ws : List Int} (hA : Agree X g.r g.hi g.lo) (hs : X s = g.r s) (ht : X t = g.r t) {z : Nat}
    (hd : doZ watch op s t d m g ws false = if reach ((g.r s + wideS m) % 4294967296) z = true then some (g.r, g.hi, g.lo, storeN ((g.r s + wideS m) % 4294967296).toNat z (g.r t) z ws, false || watch (((g.r s + wideS m) % 4294967296).toNat / 256)) else none)
    (hl : lowIns op s t d m n = [⟨.store, z, s, (t : Int), wideS m, n⟩]) : InsGoes watch op s t d m n os X g ws := by
  unfold InsGoes
  rw [hd, hl]
  have he : evalZ watch ([⟨.store, z, s, (t : Int), wideS m, n⟩] ++ os) X ws = if reach ((g.r s + wideS m) % 4294967296) z = true ∧ watch (((g.r s + wideS m) % 4294967296).toNat / 256) = false then evalZ watch os X (storeN ((g.r s + wideS m) % 4294967296).toNat z (g.r t) z ws) else .trap n := by
    show (if _ then _ else _) = _
    rw [hs, Int.toNat_natCast, ht]
    rfl
  by_cases hr : reach ((g.r s + wideS m) % 4294967296) z = true
  · rw [if_pos hr]
    show (if _ then _ else _)
    rw [Bool.false_or]
    by_cases hw : watch (((g.r s + wideS m) % 4294967296).toNat / 256) = true
    · rw [if_pos hw, he, if_neg (fun h => by rw [hw] at h; cases h.2)]
    · rw [if_neg hw]
      exact ⟨X, hA.zero', fun _ _ => rfl, by rw [he, if_pos ⟨hr, by simpa using hw⟩]⟩
  · rw [if_neg hr]
    show evalZ _ _ _ _ = _
    rw [he, if_neg (fun h => hr h.1)]
theorem low_goes {watch : Nat → Bool} {op t s d n : Nat} {m : Int} {os : List OpN} {X : Regs} {g : GS} {ws : List Int} {r' : Regs} {hi' lo' : Int} (hd : doZ watch op s t d m g ws false = some (r', hi', lo', ws, false)) (h : Goes watch (lowIns op s t d m n) os X ws r' hi' lo' ws) : InsGoes watch op s t d m n os X g ws := by
  unfold InsGoes
  rw [hd]
  show (if (false = true) then _ else _)
  rw [if_neg (by decide)]
  exact h
theorem goes_two {watch : Nat → Bool} {k1 k2 : OpK} {s t n : Nat} {os : List OpN} {X r : Regs} {hi lo : Int} {ws : List Int} (hA : Agree X r hi lo) (hs : s < 32) (ht : t < 32) {h l : Int} (a b : Nat) (hab : a = 32 ∧ b = 33 ∨ a = 33 ∧ b = 32) (v1 v2 : Int)
    (e1 : ∀ os Y, (Y s = X s ∧ Y t = X t) → evalZ watch (⟨k1, a, s, (t : Int), 0, n⟩ :: os) Y ws = evalZ watch os (updR Y a v1) ws) (e2 : ∀ os Y, (Y s = X s ∧ Y t = X t) → evalZ watch (⟨k2, b, s, (t : Int), 0, n⟩ :: os) Y ws = evalZ watch os (updR Y b v2) ws)
    (hh : updR (updR X a v1) b v2 32 = h) (hl : updR (updR X a v1) b v2 33 = l) : Goes watch [⟨k1, a, s, (t : Int), 0, n⟩, ⟨k2, b, s, (t : Int), 0, n⟩] os X ws r h l ws := by
  have ha : 32 ≤ a ∧ 32 ≤ b ∧ a ≤ 33 ∧ b ≤ 33 := by rcases hab with ⟨rfl, rfl⟩ | ⟨rfl, rfl⟩ <;> decide
  have hlow : ∀ k, k < 32 → updR (updR X a v1) b v2 k = X k := fun k hk => by rw [updR_other _ _ (by omega), updR_other _ _ (by omega)]
  refine ⟨updR (updR X a v1) b v2, ⟨(hlow 0 (by decide)).trans hA.zero, fun k h1 h2 => ?_, hh, hl⟩, fun k hk => by rw [updR_other _ _ (by omega), updR_other _ _ (by omega)], ?_⟩
  · rw [hlow k h2, updR_other _ _ (by omega)]; exact hA.reg k h1 h2
  · rw [List.cons_append, e1 _ X ⟨rfl, rfl⟩, List.cons_append, e2 _ (updR X a v1) ⟨updR_other _ _ (by omega), updR_other _ _ (by omega)⟩]
    rfl
theorem low_ins (watch : Nat → Bool) (op s t d : Nat) (m : Int) (n : Nat) (hop : plainOp op = true) (hs : s < 32) (ht : t < 32) (hd : d < 32) (os : List OpN) (X : Regs) (g : GS) (ws : List Int) (hA : Agree X g.r g.hi g.lo) (h0 : g.r 0 = 0) : InsGoes watch op s t d m n os X g ws := by
  have xs := hA.at0 h0 hs
  have xt := hA.at0 h0 ht
  have tmp : ∀ v, Agree (updR X 34 v) g.r g.hi g.lo := fun v => hA.tmp (by decide) v
  have x34 : ∀ v k, k < 32 → updR X 34 v k = X k := fun v k hk => updR_other _ _ (by omega)
  have hm := plain_cases hop
  simp only [List.mem_cons, List.not_mem_nil, or_false] at hm
  rcases hm with rfl | rfl | rfl | rfl | rfl | rfl | rfl | rfl | rfl | rfl | rfl | rfl | rfl | rfl | rfl | rfl | rfl | rfl | rfl | rfl | rfl | rfl | rfl | rfl | rfl | rfl | rfl | rfl | rfl | rfl | rfl | rfl | rfl | rfl | rfl | rfl | rfl | rfl | rfl | rfl
  -- 1 to 3
  iterate 3 exact low_goes rfl (goes_34 (goes_sum rfl hd (tmp m) (by rw [x34 _ _ ht, xt, updR_same])))
  -- 4 to 6
  iterate 3 exact low_goes rfl (goes_sum rfl hd hA (by rw [xt, xs]))
  -- 11 to 14
  · exact low_goes rfl (goes_copy hd hA hA.h)
  · refine low_goes rfl ⟨updR X 32 (X s), ⟨(updR_other _ _ (by decide)).trans hA.zero, fun k h1 h2 => (updR_other _ _ (by omega)).trans ((hA.reg k h1 h2).trans (updR_other _ _ (by omega)).symm), (updR_same _ _ _).trans xs, (updR_other _ _ (by decide)).trans hA.l⟩, fun k hk => updR_other _ _ (by omega), rfl⟩
  · exact low_goes rfl (goes_copy hd hA hA.l)
  · refine low_goes rfl ⟨updR X 33 (X s), ⟨(updR_other _ _ (by decide)).trans hA.zero, fun k h1 h2 => (updR_other _ _ (by omega)).trans ((hA.reg k h1 h2).trans (updR_other _ _ (by omega)).symm), (updR_other _ _ (by decide)).trans hA.h, (updR_same _ _ _).trans xs⟩, fun k hk => updR_other _ _ (by omega), rfl⟩
  -- 15 to 18
  · refine low_goes rfl (goes_two hA hs ht 32 33 (Or.inl ⟨rfl, rfl⟩) (mulZ (g.r s) (g.r t) true).1 (mulZ (g.r s) (g.r t) true).2 (fun os Y h => ?_) (fun os Y h => ?_) rfl rfl)
    · rw [evalZ_sum rfl, Int.toNat_natCast, h.1, h.2, xs, xt]; rfl
    · rw [evalZ_sum rfl, Int.toNat_natCast, h.1, h.2, xs, xt, ← mul_low]; rfl
  · refine low_goes rfl (goes_two hA hs ht 32 33 (Or.inl ⟨rfl, rfl⟩) (mulZ (g.r s) (g.r t) false).1 (mulZ (g.r s) (g.r t) false).2 (fun os Y h => ?_) (fun os Y h => ?_) rfl rfl)
    · rw [evalZ_sum rfl, Int.toNat_natCast, h.1, h.2, xs, xt]; rfl
    · rw [evalZ_sum rfl, Int.toNat_natCast, h.1, h.2, xs, xt]; rfl
  · cases hq : divZ (g.r s) (g.r t) true with
    | none =>
      refine low_goes (r' := g.r) (hi' := g.hi) (lo' := g.lo) (by simp only [doZ, hq]) ⟨X, hA.zero', fun _ _ => rfl, ?_⟩
      simp only [lowIns, List.cons_append, List.nil_append, evalZ, Int.toNat_natCast, xs, xt, hq]
    | some q =>
      refine low_goes (r' := g.r) (hi' := q.2) (lo' := q.1) (by simp only [doZ, hq]) (goes_two hA hs ht 33 32 (Or.inr ⟨rfl, rfl⟩) q.1 q.2 (fun os Y h => ?_) (fun os Y h => ?_) rfl rfl)
      · simp only [evalZ, Int.toNat_natCast, h.1, h.2, xs, xt, hq]
      · simp only [evalZ, Int.toNat_natCast, h.1, h.2, xs, xt, hq]
  · cases hq : divZ (g.r s) (g.r t) false with
    | none =>
      refine low_goes (r' := g.r) (hi' := g.hi) (lo' := g.lo) (by simp only [doZ, hq]) ⟨X, hA.zero', fun _ _ => rfl, ?_⟩
      simp only [lowIns, List.cons_append, List.nil_append, evalZ, Int.toNat_natCast, xs, xt, hq]
    | some q =>
      refine low_goes (r' := g.r) (hi' := q.2) (lo' := q.1) (by simp only [doZ, hq]) (goes_two hA hs ht 33 32 (Or.inr ⟨rfl, rfl⟩) q.1 q.2 (fun os Y h => ?_) (fun os Y h => ?_) rfl rfl)
      · simp only [evalZ, Int.toNat_natCast, h.1, h.2, xs, xt, hq]
      · simp only [evalZ, Int.toNat_natCast, h.1, h.2, xs, xt, hq]
  -- 19: add
  · by_cases hf : fitsZ (wrap32 (g.r s) + wrap32 (g.r t)) = true
    · refine low_goes (r' := updR g.r d (sumZ .add (g.r s) (g.r t))) (hi' := g.hi) (lo' := g.lo) (by simp only [doZ]; rw [if_pos hf]) ?_
      obtain ⟨X', h1, h2, h3⟩ := goes_sum (watch := watch) (n := n) (os := os) (ws := ws) (k := .add) rfl hd hA (show sumZ .add (X s) (X t) = _ by rw [xs, xt])
      refine ⟨X', h1, h2, ?_⟩
      rw [← h3]
      simp only [lowIns, List.cons_append, evalZ, Int.toNat_natCast, xs, xt]
      rw [if_pos hf]
    · unfold InsGoes
      have hd2 : doZ watch 19 s t d m g ws false = none := by simp only [doZ]; rw [if_neg hf]
      rw [hd2]
      simp only [lowIns, List.cons_append, evalZ, Int.toNat_natCast, xs, xt]
      rw [if_neg hf]
  -- 20: addu
  · exact low_goes rfl (goes_sum rfl hd hA (by rw [xs, xt]))
  -- 21: sub
  · by_cases hf : fitsZ (wrap32 (g.r s) - wrap32 (g.r t)) = true
    · refine low_goes (r' := updR g.r d (sumZ .sub (g.r s) (g.r t))) (hi' := g.hi) (lo' := g.lo) (by simp only [doZ]; rw [if_pos hf]) ?_
      obtain ⟨X', h1, h2, h3⟩ := goes_sum (watch := watch) (n := n) (os := os) (ws := ws) (k := .sub) rfl hd hA (show sumZ .sub (X s) (X t) = _ by rw [xs, xt])
      refine ⟨X', h1, h2, ?_⟩
      rw [← h3]
      simp only [lowIns, List.cons_append, evalZ, Int.toNat_natCast, xs, xt]
      rw [if_pos hf]
    · unfold InsGoes
      have hd2 : doZ watch 21 s t d m g ws false = none := by simp only [doZ]; rw [if_neg hf]
      rw [hd2]
      simp only [lowIns, List.cons_append, evalZ, Int.toNat_natCast, xs, xt]
      rw [if_neg hf]
  -- 22 to 28
  iterate 7 exact low_goes rfl (goes_sum rfl hd hA (by rw [xs, xt]))
  -- 35: addi
  · by_cases hf : fitsZ (wrap32 (g.r s) + wrap32 (wideS m)) = true
    · refine low_goes (r' := updR g.r t (sumZ .add (g.r s) (wideS m))) (hi' := g.hi) (lo' := g.lo) (by simp only [doZ]; rw [if_pos hf]) (goes_34 ?_)
      obtain ⟨X', h1, h2, h3⟩ := goes_sum (watch := watch) (n := n) (os := os) (ws := ws) (k := .add) (a := s) (b := 34) rfl ht (tmp (wideS m)) (show sumZ .add (updR X 34 (wideS m) s) (updR X 34 (wideS m) 34) = _ by rw [x34 _ _ hs, xs, updR_same])
      refine ⟨X', h1, h2, ?_⟩
      rw [← h3]
      simp only [List.cons_append, evalZ]
      rw [x34 _ _ hs, xs, show (34 : Int).toNat = 34 from rfl, updR_same, if_pos hf]
    · unfold InsGoes
      have hd2 : doZ watch 35 s t d m g ws false = none := by simp only [doZ]; rw [if_neg hf]
      rw [hd2]
      simp only [lowIns, setOp, List.cons_append, List.append_assoc, List.nil_append, evalZ]
      rw [if_neg (by decide)]
      simp only [List.cons_append, List.nil_append, evalZ]
      rw [x34 _ _ hs, xs, show (34 : Int).toNat = 34 from rfl, updR_same, if_neg hf]
  -- 36 to 38
  iterate 3 exact low_goes rfl (goes_34 (goes_sum rfl ht (tmp (wideS m)) (by rw [x34 _ _ hs, xs, updR_same])))
  -- 39 to 41
  iterate 3 exact low_goes rfl (goes_34 (goes_sum rfl ht (tmp m) (by rw [x34 _ _ hs, xs, updR_same])))
  -- 42: lui
  · exact low_goes rfl (goes_set ht hA _)
  -- loads
  · exact low_load ht hA xs rfl rfl rfl rfl
  · exact low_load ht hA xs rfl rfl rfl rfl
  · exact low_load ht hA xs rfl rfl rfl rfl
  · exact low_load ht hA xs rfl rfl rfl rfl
  · exact low_load ht hA xs rfl rfl rfl rfl
  -- stores
  · exact low_store hA xs xt rfl rfl
  · exact low_store hA xs xt rfl rfl
  · exact low_store hA xs xt rfl rfl
end Go.Proofs.YtadoaldnjnkhgaaGreatDoor
namespace Go.Proofs.YtadoaldnjnkhgaaGreatDoor
open Go.RowKit
def brOp (op : Nat) : Bool := [7, 8, 29, 30, 31, 32, 33, 34].contains op
abbrev InsN.o (i : InsN) : Nat := i.op.toNat
def brZ (op s t d : Nat) (m : Int) (r : Regs) (pc : Int) : Regs × Option Int := match op with
  | 31 => (r, if r s = r t then some (((pc + 4) % 4294967296 + 4 * wrap32 (wideS m)) % 4294967296) else none)
  | 32 => (r, if r s ≠ r t then some (((pc + 4) % 4294967296 + 4 * wrap32 (wideS m)) % 4294967296) else none)
  | 33 => (r, if wrap32 (r s) ≤ 0 then some (((pc + 4) % 4294967296 + 4 * wrap32 (wideS m)) % 4294967296) else none)
  | 34 => (r, if 0 < wrap32 (r s) then some (((pc + 4) % 4294967296 + 4 * wrap32 (wideS m)) % 4294967296) else none)
  | 29 => (r, some ((pc + 4) % 4294967296 / 268435456 * 268435456 + 4 * m))
  | 30 => (updR r 31 ((pc + 8) % 4294967296), some ((pc + 4) % 4294967296 / 268435456 * 268435456 + 4 * m))
  | 7 => (r, some (r s))
  | 8 => (updR r d ((pc + 8) % 4294967296), some (r s))
  | _ => (r, none)
def oneZ (watch : Nat → Bool) (i : InsN) (g : GS) (ws : List Int) (h : Bool) : Option (GS × List Int × Bool) :=
  if brOp i.o = true then
    if g.slot = true then none else
    some (⟨updR (brZ i.o i.s.toNat i.t.toNat i.d.toNat i.imm g.r g.pc).1 0 0, g.hi, g.lo, g.next, ((brZ i.o i.s.toNat i.t.toNat i.d.toNat i.imm g.r g.pc).2).getD ((g.next + 4) % 4294967296), true⟩, ws, h)
  else match doZ watch i.o i.s.toNat i.t.toNat i.d.toNat i.imm g ws h with
    | none => none
    | some (r', hi', lo', ws', h') => some (⟨updR r' 0 0, hi', lo', g.next, (g.next + 4) % 4294967296, false⟩, ws', h')
def walkZ (watch : Nat → Bool) : List InsN → GS → List Int → Bool → Option (GS × List Int × Bool)
  | [], g, ws, h => some (g, ws, h)
  | i :: l, g, ws, h => match oneZ watch i g ws h with
    | none => none
    | some (g', ws', h') => walkZ watch l g' ws' h'
def stepsZ (watch : Nat → Bool) (l : List InsN) (g : GS) (ws : List Int) : Option (GS × List Int) := match walkZ watch l g ws false with
  | some (g', ws', false) => some (g', ws')
  | _ => none
theorem walkZ_app (watch : Nat → Bool) : ∀ (l1 l2 : List InsN) (g : GS) (ws : List Int) (h : Bool), walkZ watch (l1 ++ l2) g ws h = match walkZ watch l1 g ws h with
    | none => none
    | some (g', ws', h') => walkZ watch l2 g' ws' h'
  | [], l2, g, ws, h => rfl
  | i :: l1, l2, g, ws, h => by
    rw [List.cons_append]
    simp only [walkZ]
    cases oneZ watch i g ws h with
    | none => rfl
    | some x => exact walkZ_app watch l1 l2 _ _ _
theorem doZ_mark {watch : Nat → Bool} {op s t d : Nat} {m : Int} {g : GS} {ws : List Int} {x : Regs × Int × Int × List Int × Bool} (h : doZ watch op s t d m g ws true = some x) : x.2.2.2.2 = true := by
  unfold doZ at h
  split at h
  all_goals dsimp only at h
  all_goals first
    | (cases h; rfl)
    | (split at h <;> first | (cases h; rfl) | cases h)
    | (cases h; simp)
    | (split at h <;> first | (cases h; simp) | cases h)
theorem walkZ_mark {watch : Nat → Bool} : ∀ (l : List InsN) (g : GS) (ws : List Int) (x : GS × List Int × Bool), walkZ watch l g ws true = some x → x.2.2 = true
  | [], g, ws, x, h => by cases h; rfl
  | i :: l, g, ws, x, h => by
    simp only [walkZ] at h
    cases ho : oneZ watch i g ws true with
    | none => rw [ho] at h; cases h
    | some y =>
      rw [ho] at h
      obtain ⟨g', ws', h'⟩ := y
      have hm : h' = true := by
        unfold oneZ at ho
        split at ho
        · split at ho
          · cases ho
          · cases ho; rfl
        · split at ho
          · cases ho
          · next r' hi' lo' ws2 h2 hd =>
            cases ho
            exact doZ_mark hd
      subst hm
      exact walkZ_mark l g' ws' x h
def lowList : List InsN → Nat → List OpN
  | [], _ => []
  | i :: l, n => lowIns i.o i.s.toNat i.t.toNat i.d.toNat i.imm n ++ lowList l (n + 1)
structure InsOK (i : InsN) : Prop where
  s : i.s.toNat < 32
  t : i.t.toNat < 32
  d : i.d.toNat < 32
theorem plain_not {op : Nat} (h : plainOp op = true) : brOp op = false := by
  have h1 := plain_cases h
  simp only [List.mem_cons, List.not_mem_nil, or_false] at h1
  rcases h1 with rfl | rfl | rfl | rfl | rfl | rfl | rfl | rfl | rfl | rfl | rfl | rfl | rfl | rfl | rfl | rfl | rfl | rfl | rfl | rfl | rfl | rfl | rfl | rfl | rfl | rfl | rfl | rfl | rfl | rfl | rfl | rfl | rfl | rfl | rfl | rfl | rfl | rfl | rfl | rfl <;> rfl
theorem low_one {watch : Nat → Bool} {i : InsN} (hop : plainOp i.o = true) (hi : InsOK i) (n : Nat) (os : List OpN) {X : Regs} {g : GS} {ws : List Int} (hA : Agree X g.r g.hi g.lo) (h0 : g.r 0 = 0) :
    match oneZ watch i g ws false with
    | some (g', ws', false) => ∃ X', Agree X' g'.r g'.hi g'.lo ∧ (∀ k, 34 < k → X' k = X k) ∧ g'.r 0 = 0 ∧ g'.pc = g.next ∧ g'.next = (g.next + 4) % 4294967296 ∧ g'.slot = false ∧ evalZ watch (lowIns i.o i.s.toNat i.t.toNat i.d.toNat i.imm n ++ os) X ws = evalZ watch os X' ws'
    | _ => ∃ k, evalZ watch (lowIns i.o i.s.toNat i.t.toNat i.d.toNat i.imm n ++ os) X ws = .trap k := by
  have hl := low_ins watch i.o i.s.toNat i.t.toNat i.d.toNat i.imm n hop hi.s hi.t hi.d os X g ws hA h0
  unfold InsGoes at hl
  unfold oneZ
  rw [plain_not hop, if_neg (by decide)]
  cases hd : doZ watch i.o i.s.toNat i.t.toNat i.d.toNat i.imm g ws false with
  | none =>
    rw [hd] at hl
    exact ⟨n, hl⟩
  | some x =>
    obtain ⟨r', hi', lo', ws', h'⟩ := x
    rw [hd] at hl
    cases h' with
    | true => exact ⟨n, by simpa using hl⟩
    | false =>
      simp only [Bool.false_eq_true, if_false] at hl
      obtain ⟨X', h1, h2, h3⟩ := hl
      exact ⟨X', h1, h2, updR_same r' 0 0, rfl, rfl, rfl, h3⟩
theorem low_pre {watch : Nat → Bool} (os : List OpN) : ∀ (l : List InsN) (n : Nat) (X : Regs) (g : GS) (ws : List Int), (∀ i ∈ l, plainOp i.o = true ∧ InsOK i) → Agree X g.r g.hi g.lo → g.r 0 = 0 → g.slot = false → 0 ≤ g.pc → g.pc < 4294967296 → g.next = (g.pc + 4) % 4294967296 →
    match walkZ watch l g ws false with
    | some (g', ws', false) => ∃ X', Agree X' g'.r g'.hi g'.lo ∧ (∀ k, 34 < k → X' k = X k) ∧ g'.r 0 = 0 ∧ g'.pc = (g.pc + 4 * (l.length : Int)) % 4294967296 ∧ g'.next = (g'.pc + 4) % 4294967296 ∧ g'.slot = false ∧ evalZ watch (lowList l n ++ os) X ws = evalZ watch os X' ws'
    | _ => ∃ k, evalZ watch (lowList l n ++ os) X ws = .trap k
  | [], n, X, g, ws, _, hA, h0, hs, p0, p1, hn => ⟨X, hA, fun _ _ => rfl, h0, by simp; omega, hn, hs, rfl⟩
  | i :: l, n, X, g, ws, hl, hA, h0, hs, p0, p1, hn => by
    obtain ⟨hop, hok⟩ := hl i List.mem_cons_self
    have h1 := low_one (watch := watch) (ws := ws) hop hok n (lowList l (n + 1) ++ os) hA h0
    have hcat : lowList (i :: l) n ++ os = lowIns i.o i.s.toNat i.t.toNat i.d.toNat i.imm n ++ (lowList l (n + 1) ++ os) := by simp [lowList]
    rw [hcat]
    simp only [walkZ]
    cases ho : oneZ watch i g ws false with
    | none => rw [ho] at h1; exact h1
    | some y =>
      obtain ⟨g1, ws1, m1⟩ := y
      rw [ho] at h1
      cases m1 with
      | true =>
        simp only at h1 ⊢
        cases hw : walkZ watch l g1 ws1 true with
        | none => exact h1
        | some z =>
          have := walkZ_mark l g1 ws1 z hw
          obtain ⟨z1, z2, z3⟩ := z
          simp only at this
          subst this
          exact h1
      | false =>
        simp only at h1 ⊢
        obtain ⟨X1, a1, a2, a3, a4, a5, a6, a7⟩ := h1
        have ih := low_pre (watch := watch) os l (n + 1) X1 g1 ws1 (fun j hj => hl j (List.mem_cons_of_mem _ hj)) a1 a3 a6 (by rw [a4, hn]; omega) (by rw [a4, hn]; omega) (by rw [a5, a4])
        rw [a7]
        cases hw : walkZ watch l g1 ws1 false with
        | none => rw [hw] at ih; exact ih
        | some z =>
          obtain ⟨g2, ws2, m2⟩ := z
          rw [hw] at ih
          cases m2 with
          | true => exact ih
          | false =>
            simp only at ih ⊢
            obtain ⟨X2, b1, b2, b3, b4, b5, b6, b7⟩ := ih
            exact ⟨X2, b1, fun k hk => (b2 k hk).trans (a2 k hk), b3, by rw [b4, a4, hn, List.length_cons]; omega, b5, b6, b7⟩
def Reg32 (v : Int) : Prop := 0 ≤ v ∧ v < 4294967296
def RegsOK (r : Regs) : Prop := ∀ k, Reg32 (r k)
def WsOK (ws : List Int) : Prop := ∀ z ∈ ws, Reg32 z
theorem RegsOK.upd {r : Regs} (h : RegsOK r) {v : Int} (hv : Reg32 v) (d : Nat) : RegsOK (updR r d v) := by
  intro k
  unfold updR
  split
  · exact hv
  · exact h k
theorem r32_mod (v : Int) : Reg32 (v % 4294967296) := ⟨Int.emod_nonneg _ (by decide), Int.emod_lt_of_pos _ (by decide)⟩
theorem r32_0 : Reg32 0 := ⟨by decide, by decide⟩
theorem bitsZ_ok (t : Nat) (a b : Int) : Reg32 (bitsZ t a b) := by
  have := bitsN_lt t 32 a.toNat b.toNat
  unfold bitsZ Reg32
  omega
theorem bitZ_ok (b : Bool) : Reg32 (bitZ b) := by cases b <;> exact ⟨by decide, by decide⟩
theorem shr_ok {a : Int} (h : Reg32 a) (n : Int) : Reg32 (shrZ a n) := by
  obtain ⟨h0, h1⟩ := h
  unfold shrZ
  have hp : (0 : Int) < 2 ^ (n % 32).toNat := Int.pow_pos (by decide)
  refine ⟨Int.ediv_nonneg h0 (Int.le_of_lt hp), ?_⟩
  have := Int.ediv_le_self (b := 2 ^ (n % 32).toNat) h0
  omega
theorem sumZ_ok (k : OpK) {a b : Int} (ha : Reg32 a) (hb : Reg32 b) : Reg32 (sumZ k a b) := by
  cases k
  all_goals first
    | exact bitsZ_ok _ _ _
    | exact bitZ_ok _
    | exact shr_ok ha _
    | exact r32_mod _
theorem mulZ_ok (a b : Int) (s : Bool) : Reg32 (mulZ a b s).1 ∧ Reg32 (mulZ a b s).2 := by cases s <;> exact ⟨r32_mod _, r32_mod _⟩
theorem divZ_ok {a b : Int} (ha : Reg32 a) (hb : Reg32 b) {s : Bool} {q : Int × Int} (h : divZ a b s = some q) : Reg32 q.1 ∧ Reg32 q.2 := by
  unfold divZ at h
  split at h
  · cases h
  · next hz =>
    split at h
    · cases h; exact ⟨r32_mod _, r32_mod _⟩
    · cases h
      obtain ⟨a0, a1⟩ := ha
      obtain ⟨b0, b1⟩ := hb
      refine ⟨⟨Int.ediv_nonneg a0 b0, ?_⟩, Int.emod_nonneg _ hz, ?_⟩
      · have := Int.ediv_le_self (b := b) a0
        omega
      · have := Int.emod_lt_of_pos a (show 0 < b by omega)
        omega
theorem byte_ok (ws : List Int) (a : Nat) : 0 ≤ byteAt ws a ∧ byteAt ws a < 256 := ⟨Int.emod_nonneg _ (by decide), Int.emod_lt_of_pos _ (by decide)⟩
theorem load_ok (ws : List Int) (a : Nat) : ∀ n, 0 ≤ loadN ws a n ∧ loadN ws a n < 256 ^ n
  | 0 => by simp [loadN]
  | n + 1 => by
    have ih := load_ok ws a n
    have hb := byte_ok ws (a + n)
    unfold loadN
    rw [Int.pow_succ]
    omega
theorem wideZ_ok {v : Int} {n : Nat} (hv : 0 ≤ v ∧ v < 256 ^ n) (s : Bool) : Reg32 (wideZ v n s) := by
  unfold wideZ
  split
  · next e => subst e; exact ⟨hv.1, by have := hv.2; omega⟩
  · exact r32_mod _
theorem put_ok {ws : List Int} (h : WsOK ws) (a : Nat) (v : Int) : WsOK (putByte ws a v) := by
  intro z hz
  unfold putByte at hz
  rcases List.mem_or_eq_of_mem_set hz with hz | rfl
  · exact h z hz
  · exact r32_mod _
theorem store_ok {ws : List Int} (h : WsOK ws) (a n : Nat) (v : Int) : ∀ m, WsOK (storeN a n v m ws)
  | 0 => h
  | m + 1 => put_ok (store_ok h a n v m) _ _
structure GSOK (g : GS) : Prop where
  r : RegsOK g.r
  hi : Reg32 g.hi
  lo : Reg32 g.lo
theorem wideS_ok (v : Int) : Reg32 (wideS v) := r32_mod _
theorem doZ_ok {watch : Nat → Bool} {op s t d : Nat} {m : Int} (hm : Reg32 m) {g : GS} {ws : List Int} {h : Bool} {x : Regs × Int × Int × List Int × Bool} (hg : GSOK g) (hw : WsOK ws) (hd : doZ watch op s t d m g ws h = some x) : RegsOK x.1 ∧ Reg32 x.2.1 ∧ Reg32 x.2.2.1 ∧ WsOK x.2.2.2.1 := by
  have hs := hg.r s
  have ht := hg.r t
  unfold doZ at hd
  split at hd
  all_goals dsimp only at hd
  all_goals first
    | (cases hd; exact ⟨hg.r.upd (sumZ_ok _ (by assumption) (by assumption)) _, hg.hi, hg.lo, hw⟩)
    | (cases hd; exact ⟨hg.r.upd (sumZ_ok _ hs (wideS_ok _)) _, hg.hi, hg.lo, hw⟩)
    | (cases hd; exact ⟨hg.r.upd hg.hi _, hg.hi, hg.lo, hw⟩)
    | (cases hd; exact ⟨hg.r.upd hg.lo _, hg.hi, hg.lo, hw⟩)
    | (cases hd; exact ⟨hg.r.upd (r32_mod _) _, hg.hi, hg.lo, hw⟩)
    | (cases hd; exact ⟨hg.r, hs, hg.lo, hw⟩)
    | (cases hd; exact ⟨hg.r, hg.hi, hs, hw⟩)
    | (cases hd; exact ⟨hg.r, (mulZ_ok _ _ _).1, (mulZ_ok _ _ _).2, hw⟩)
    | (split at hd
       · next q hq => cases hd; exact ⟨hg.r, (divZ_ok hs ht hq).2, (divZ_ok hs ht hq).1, hw⟩
       · cases hd; exact ⟨hg.r, hg.hi, hg.lo, hw⟩)
    | (split at hd
       · cases hd; exact ⟨hg.r.upd (r32_mod _) _, hg.hi, hg.lo, hw⟩
       · cases hd)
    | (split at hd
       · cases hd; exact ⟨hg.r.upd (wideZ_ok (load_ok _ _ _) _) _, hg.hi, hg.lo, hw⟩
       · cases hd)
    | (split at hd
       · cases hd; exact ⟨hg.r, hg.hi, hg.lo, store_ok hw _ _ _ _⟩
       · cases hd)
theorem brZ_ok {op s t d : Nat} {m : Int} {r : Regs} {pc : Int} (hr : RegsOK r) : RegsOK (brZ op s t d m r pc).1 := by
  unfold brZ
  split
  all_goals first
    | exact hr
    | exact hr.upd (r32_mod _) _
theorem oneZ_ok {watch : Nat → Bool} {i : InsN} (hm : Reg32 i.imm) {g : GS} {ws : List Int} {h : Bool} {x : GS × List Int × Bool} (hg : GSOK g) (hw : WsOK ws) (ho : oneZ watch i g ws h = some x) : GSOK x.1 ∧ WsOK x.2.1 := by
  unfold oneZ at ho
  split at ho
  · split at ho
    · cases ho
    · cases ho
      exact ⟨⟨(brZ_ok hg.r).upd r32_0 0, hg.hi, hg.lo⟩, hw⟩
  · split at ho
    · cases ho
    · next r' hi' lo' ws' h' hd =>
      cases ho
      obtain ⟨a, b, c, e⟩ := doZ_ok hm hg hw hd
      exact ⟨⟨a.upd r32_0 0, b, c⟩, e⟩
theorem walkZ_ok {watch : Nat → Bool} : ∀ (l : List InsN), (∀ i ∈ l, Reg32 i.imm) → ∀ (g : GS) (ws : List Int) (h : Bool) (x : GS × List Int × Bool), GSOK g → WsOK ws → walkZ watch l g ws h = some x → GSOK x.1 ∧ WsOK x.2.1
  | [], _, g, ws, h, x, hg, hw, ho => by cases ho; exact ⟨hg, hw⟩
  | i :: l, hl, g, ws, h, x, hg, hw, ho => by
    simp only [walkZ] at ho
    cases h1 : oneZ watch i g ws h with
    | none => rw [h1] at ho; cases ho
    | some y =>
      rw [h1] at ho
      obtain ⟨a, b⟩ := oneZ_ok (hl i List.mem_cons_self) hg hw h1
      exact walkZ_ok l (fun j hj => hl j (List.mem_cons_of_mem _ hj)) _ _ _ x a b ho
end Go.Proofs.YtadoaldnjnkhgaaGreatDoor
