/- Lemmas and contracts on the way to the statement; no condition of their own beyond those written. -/
import Derived.Test.YtcbonaeaemclnaaPmG
import Derived.Test.YtcbonaeaemclnaaPmP
import Derived.Test.YtcbonaeaemclnaaRFa
import Derived.RangeFuncBound
import Derived.RangeFuncCalls
import Derived.Shelf.Abstract
import Derived.Shelf.RegionOpen
import Derived.OwnWalkIn
import Derived.TacticsInMore
import Derived.LoopNIn
import Derived.LoopIn
namespace Go.Proofs.Ytcbonaeaemclnaa
open Go.RowKit Go.Shelf
open Go.Proofs
attribute [local go_sem] Oper.semAt_some

/-- the number in a cell -/
def cellNum (W : World) (a : Addr) : Nat := match W.cell? a with | some (.int _ m) => m.toNat | _ => 0
theorem cellNum_of {W : World} {a : Addr} {k : IntKind} {m : Nat} (h : W.cell? a = some (.int k m)) : cellNum W a = m := by
  unfold cellNum; rw [h]; simp

theorem divides_in (n : Nat) (m : Int) (w : World) (h2 : 2 ≤ m) (hn : m.toNat ≤ 1000000000) :
    CallsIn Fence.wide n Try.prog 44 #[.int .i64 m] w fun e w' => e = .returned (.int .i64 (Pm.lf m.toNat)) ∧ w = w' := by
  have := divides_any m.toNat w (by omega) hn
  rw [Int.toNat_of_nonneg (by omega)] at this
  exact callsIn_wide.2 this

set_option maxRecDepth 100000 in
set_option maxHeartbeats 1000000 in
theorem factors1_in (n L B n0 : Nat) (J : List (Nat × Nat) → World → Prop) (Jx : World → Prop) (h0 : n0 ≤ 1000000000)
    (hJ : ∀ pre W v, J pre W → J pre (W.setCell ⟨B, 0, none⟩ v))
    (hY : ∀ pre p k rest W v, Pm.facs n0 = pre ++ (p, k) :: rest → J pre W → W.cell? ⟨B, 0, none⟩ = some v → W.frozen? ⟨B, 0, none⟩ = false →
      YieldAt Fence.wide (n - 1) Try.prog L #[.int .i64 (p : Nat), .int .i64 (k : Nat)] W fun e W' =>
        (e = .returned (.bool true) ∧ J (pre ++ [(p, k)]) W' ∧ W'.cell? ⟨B, 0, none⟩ = some v ∧ W'.frozen? ⟨B, 0, none⟩ = false) ∨ (e = .returned (.bool false) ∧ Jx W'))
    (W : World) (hc : W.cell? ⟨B, 0, none⟩ = some (.int .i64 n0)) (hf : W.frozen? ⟨B, 0, none⟩ = false) (hJ0 : J [] W) :
    CallsIn Fence.wide n Try.prog 51 #[.func (.yield L) #[] #[], .pointer (some ⟨B, 0, none⟩)] W fun e W' => (∃ v, e = .returned v) ∧ (J (Pm.facs n0) W' ∨ Jx W') := by
  refine callsIn_of_wp Try.func51 rfl trivial ?_ rfl
  simp only [Try.ntmps51, List.size_toArray, List.length_cons, List.length_nil, Nat.reduceAdd, Nat.reduceSub, Array.replicate_succ, Array.replicate_zero, List.push_toArray, List.append_toArray, List.nil_append, List.cons_append]
  gi_wp2_with fail
  gi_loopw [3, 4] (fun _ _ wr => ∃ (m : Nat) (pre : List (Nat × Nat)), m ≤ n0 ∧ wr.cell? ⟨B, 0, none⟩ = some (.int .i64 m) ∧ wr.frozen? ⟨B, 0, none⟩ = false ∧ J pre wr ∧ Pm.facs n0 = pre ++ Pm.facs m) (fun _ _ wr => cellNum wr ⟨B, 0, none⟩)
  case atStart => exact ⟨n0, [], Nat.le_refl _, hc, hf, hJ0, rfl⟩
  case round =>
    obtain ⟨m, pre, hm2, hcm, hfm, hJm, hs⟩ := hrel
    have Hs := Lib.hid hs
    have HW := Lib.hid (cellNum_of hcm)
    clear hs hc hf hJ0
    by_cases hm : 1 < (m : Int)
    · obtain ⟨l1, l2, l3⟩ := Pm.lf_spec (n := m) (by omega)
      have l2' := Lib.hid l2
      have l4 := l3 m (by omega) (Nat.mod_self m)
      have l3' := Lib.hid l3
      clear l2 l3
      have hml : ((m : Int)).toNat = m := by simp
      gi_wp2_with ((refine ⟨trivial, fun h => by simp [Fence.wide] at h, ?_⟩; gi_at_call 44; refine (divides_in _ _ _ (by omega) (by omega)).mono ?_; rintro e w' ⟨rfl, rfl⟩))
      generalize hp : Pm.lf m = p at *
      have Hp := Lib.hid hp
      clear hp
      gi_loopw [4] (fun vk wq => ∃ m' k' : Nat, vk = .int .i64 k' ∧ m = p ^ k' * m' ∧ 1 ≤ m' ∧ m' ≤ m ∧ wq.cell? ⟨B, 0, none⟩ = some (.int .i64 m') ∧ wq.frozen? ⟨B, 0, none⟩ = false ∧ J pre wq) (fun _ wq => cellNum wq ⟨B, 0, none⟩)
      case atStart => exact ⟨m, 0, rfl, by simp, by omega, Nat.le_refl _, hcm, hfm, hJm⟩
      case round =>
        obtain ⟨m', k', rfl, he, hm1', hm2', hc', hf', hJ'⟩ := hrel
        have He := Lib.hid he
        clear he hcm hfm hJm
        have hk' : k' ≤ 1000000000 := by
          have h1 := Pm.pow_ge l1 k'
          have h2 : p ^ k' * 1 ≤ p ^ k' * m' := Nat.mul_le_mul_left _ hm1'
          have := He.out; omega
        have hq0 : 0 ≤ (m' : Int) / (p : Int) := Int.ediv_nonneg (by omega) (by omega)
        have hq1 : (m' : Int) / (p : Int) ≤ m' := Int.ediv_le_self _ (by omega)
        by_cases hd : m' % p = 0
        · have hb : ((m' : Int) % (p : Int) == 0) = true := beq_of_mod hd
          have Hd := Lib.hid hd
          clear hd
          gi_wp2
          have hpm : p * (m' / p) = m' := Nat.mul_div_cancel' (Nat.dvd_of_mod_eq_zero Hd.out)
          have hm3 : 1 ≤ m' / p := by
            rcases Nat.eq_zero_or_pos (m' / p) with h | h
            · rw [h] at hpm; omega
            · exact h
          have hm4 : m' / p < m' := Nat.div_lt_self (by omega) (by omega)
          have hcn : cellNum (wr.setCell ⟨B, 0, none⟩ (.int .i64 ((m' / p : Nat) : Int))) ⟨B, 0, none⟩ = m' / p := cellNum_of (World.cell?_setCell_same' _ _ _ (by rw [hc']; rfl))
          have hco : cellNum wr ⟨B, 0, none⟩ = m' := cellNum_of hc'
          go_roundw
          case rel =>
            refine ⟨m' / p, k' + 1, by go_num, ?_, hm3, by omega, ?_, ?_, hJ _ _ _ hJ'⟩
            · rw [Nat.pow_succ, Nat.mul_assoc, hpm]; exact He.out
            · rw [World.cell?_setCell_same' _ _ _ (by rw [hc']; rfl)]; simp
            · rw [World.frozen?_setCell]; exact hf'
          case measure =>
            have e1 : ((m' / p : Nat) : Int) = (m' : Int) / p := by simp
            rw [← e1, hcn, hco]; exact hm4
        · have hb : ((m' : Int) % (p : Int) == 0) = false := by rw [beq_eq_false_iff_ne]; omega
          have Hd := Lib.hid hd
          clear hd
          have hfs : Pm.facs m = (p, k') :: Pm.facs m' := by
            have hp := Hp.out
            subst hp
            exact Pm.facs_of (by omega) He.out hm1' Hd.out
          obtain ⟨fn, tmps, assign, body, hy, hR⟩ := hY pre p k' (Pm.facs m') wr _ (by rw [Hs.out, hfs]) hJ' hc' hf'
          gi_wp2
          refine ⟨fun h => by simp [Fence.wide] at h, ?_⟩
          refine hR.mono ?_
          rintro e W3 (⟨rfl, hJ3, hc3, hf3⟩ | ⟨rfl, hJx3⟩)
          · gi_wp2
            go_roundw
            case rel => exact ⟨m', pre ++ [(p, k')], by omega, hc3, hf3, hJ3, by rw [Hs.out, hfs]; simp⟩
            case measure =>
              rw [cellNum_of hc3, HW.out]
              have := He.out
              have hp := Hp.out
              subst hp
              have h5 := (Pm.mu_lt (n := m) (by omega)).1
              rw [Pm.mu_of l1 He.out hm1' Hd.out] at h5
              exact h5
          · gi_wp2
            refine bodyPost_ret (results_none rfl _ _ _) rfl ?_
            exact ⟨⟨_, rfl⟩, .inr hJx3⟩
    · gi_wp2
      go_end0
      refine ⟨⟨_, rfl⟩, .inl ?_⟩
      rw [Hs.out, Pm.facs_one (by omega), List.append_nil]; exact hJm
end Go.Proofs.Ytcbonaeaemclnaa
