/- Lemmas and contracts on the way to the statement; no condition of their own beyond those written. -/
import Derived.Test.YtcbonaeaemclnaaPmM2
namespace Go.Proofs.Pm
/-- the power, of integers -/
def pwI (a n p : Int) : Int := (pw a.toNat n.toNat p.toNat : Nat)
theorem pwI_bd {a n p : Int} (h : 1 ≤ p) : 0 ≤ pwI a n p ∧ pwI a n p < p := by
  have := pw_lt (a := a.toNat) (n := n.toNat) (p := p.toNat) (by omega)
  unfold pwI; omega

def inv (a p : Int) : Int × Int := if isB p = true then (if a % p = 0 then (0, 6) else (pwI (a % p) (p - 2) p, 0)) else (0, 3)
theorem inv_f {a p : Int} (h : isB p = false) : inv a p = (0, 3) := by simp [inv, h]
theorem inv_z {a p : Int} (h : isB p = true) (h0 : a % p = 0) : inv a p = (0, 6) := by simp [inv, h, h0]
theorem inv_t {a p : Int} (h : isB p = true) (h0 : a % p ≠ 0) : inv a p = (pwI (a % p) (p - 2) p, 0) := by simp [inv, h, h0]

def pow (a n p : Int) : Int × Int :=
  if isB p = true then (if a % p = 0 then (if 0 ≤ n then (if n = 0 then (1, 0) else (0, 0)) else (0, 6)) else (pwI (a % p) (n % (p - 1)) p, 0)) else (0, 3)
theorem pow_f {a n p : Int} (h : isB p = false) : pow a n p = (0, 3) := by simp [pow, h]
theorem pow_z0 {a p : Int} (h : isB p = true) (h0 : a % p = 0) : pow a 0 p = (1, 0) := by simp [pow, h, h0]
theorem pow_zp {a n p : Int} (h : isB p = true) (h0 : a % p = 0) (hn : 0 < n) : pow a n p = (0, 0) := by
  have : 0 ≤ n := by omega
  have : n ≠ 0 := by omega
  simp [pow, *]
theorem pow_zn {a n p : Int} (h : isB p = true) (h0 : a % p = 0) (hn : n < 0) : pow a n p = (0, 6) := by
  have : ¬ 0 ≤ n := by omega
  simp [pow, *]
theorem pow_t {a n p : Int} (h : isB p = true) (h0 : a % p ≠ 0) : pow a n p = (pwI (a % p) (n % (p - 1)) p, 0) := by simp [pow, h, h0]

/-- the least root from x on -/
def sqAux (a p : Int) : Nat → Nat → Int × Int
  | 0, _ => (0, 18)
  | f + 1, x => if (x : Int) * x % p = a then ((x : Int), 0) else sqAux a p f (x + 1)
def sqrt (a p : Int) : Int × Int := if isB p = true then sqAux (a % p) p p.toNat 0 else (0, 3)
theorem sqrt_f {a p : Int} (h : isB p = false) : sqrt a p = (0, 3) := by simp [sqrt, h]
theorem sqrt_t {a p : Int} (h : isB p = true) : sqrt a p = sqAux (a % p) p p.toNat 0 := by simp [sqrt, h]
theorem sqAux_yes {a p : Int} {f x : Nat} (h : (x : Int) * x % p = a) (hx : x < f) : sqAux a p (f - x) x = ((x : Int), 0) := by
  rw [show f - x = (f - (x + 1)) + 1 from by omega]
  show (if _ then _ else _) = _
  rw [if_pos h]
theorem sqAux_no {a p : Int} {f x : Nat} (h : (x : Int) * x % p ≠ a) (hx : x < f) : sqAux a p (f - x) x = sqAux a p (f - (x + 1)) (x + 1) := by
  rw [show f - x = (f - (x + 1)) + 1 from by omega]
  show (if _ then _ else _) = _
  rw [if_neg h]

/-- Symbol -/
def sym (a p : Int) : Int × Int :=
  if isB p = true then (if a % p = 0 then (0, 0) else if p = 2 then (1, 0) else if pwI (a % p) ((p - 1) / 2) p = 1 then (1, 0) else (-1, 0)) else (0, 3)
theorem sym_f {a p : Int} (h : isB p = false) : sym a p = (0, 3) := by simp [sym, h]
theorem sym_z {a p : Int} (h : isB p = true) (h0 : a % p = 0) : sym a p = (0, 0) := by simp [sym, h, h0]
theorem sym_2 {a p : Int} (h : isB p = true) (h0 : a % p ≠ 0) (h2 : p = 2) : sym a p = (1, 0) := by
  unfold sym; rw [if_pos h, if_neg h0, if_pos h2]
theorem sym_1 {a p : Int} (h : isB p = true) (h0 : a % p ≠ 0) (h2 : p ≠ 2) (h1 : pwI (a % p) ((p - 1) / 2) p = 1) : sym a p = (1, 0) := by
  unfold sym; rw [if_pos h, if_neg h0, if_neg h2, if_pos h1]
theorem sym_m {a p : Int} (h : isB p = true) (h0 : a % p ≠ 0) (h2 : p ≠ 2) (h1 : pwI (a % p) ((p - 1) / 2) p ≠ 1) : sym a p = (-1, 0) := by
  unfold sym; rw [if_pos h, if_neg h0, if_neg h2, if_neg h1]
end Go.Proofs.Pm
