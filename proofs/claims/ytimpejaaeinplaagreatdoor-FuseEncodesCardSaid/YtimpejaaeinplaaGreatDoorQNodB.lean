/- NodB -/
import Derived.Test.YtimpejaaeinplaaGreatDoorQI2
import Derived.Test.YtimpejaaeinplaaGreatDoorQOwnAx
namespace Go.Proofs.YtimpejaaeinplaaGreatDoor
open Go.RowKit

set_option maxRecDepth 100000 in
set_option maxHeartbeats 1000000 in
theorem refKind (x : TrN) (va : Value) (w : World) (hv : ∃ a cap, va = .slice a x.ats.length cap) : RetB Tryz.prog 70 #[trV x va] w (.int .i64 (kindE x)) := by
  unfold RetB trV
  obtain ⟨aa, cap, rfl⟩ := hv
  by_cases k0 : x.kd < 1
  case pos =>
    have hr : kindE x = 14 := by unfold kindE; simp [k0]
    rw [hr]; clear hr
    go_enter Tryz.func70, Tryz.ntmps70
    go_wp2
    go_ret
    exact ⟨rfl, eA _ _⟩
  by_cases k6 : 5 < x.kd
  case pos =>
    have hr : kindE x = 14 := by unfold kindE; simp [k6]
    rw [hr]; clear hr
    go_enter Tryz.func70, Tryz.ntmps70
    go_wp2
    go_ret
    exact ⟨rfl, eA _ _⟩
  by_cases k : x.kd = 1
  case pos =>
    clear k0 k6
    by_cases hdat : x.dat.toList = []
    case pos =>
      have dat1 : x.dat.toList.isEmpty = true := by rw [hdat]; rfl
      have dat2 : x.dat.size = 0 := empty_size hdat
      by_cases hma : x.ma = 0
      case pos =>
        by_cases hmi : x.mi = 0
        case pos =>
          by_cases hcl : x.cl = 0
          case pos =>
            have hr : kindE x = 0 := by unfold kindE; simp [k, hdat, hma, hmi, hcl]
            rw [hr]; clear hr
            go_enter Tryz.func70, Tryz.ntmps70
            go_wp2
            go_ret
            exact ⟨rfl, eA _ _⟩
          case neg =>
            have cl1 : (x.cl == 0) = false := beq_eq_false_iff_ne.2 hcl
            have cl2 : (x.cl != 0) = true := bne_iff_ne.2 hcl
            have hr : kindE x = 6 := by unfold kindE; simp [k, hdat, hma, hmi, hcl]
            rw [hr]; clear hr
            go_enter Tryz.func70, Tryz.ntmps70
            go_wp2
            go_ret
            exact ⟨rfl, eA _ _⟩
        case neg =>
          have mi1 : (x.mi == 0) = false := beq_eq_false_iff_ne.2 hmi
          have mi2 : (x.mi != 0) = true := bne_iff_ne.2 hmi
          have hr : kindE x = 6 := by unfold kindE; simp [k, hdat, hma, hmi]
          rw [hr]; clear hr
          go_enter Tryz.func70, Tryz.ntmps70
          go_wp2
          go_ret
          exact ⟨rfl, eA _ _⟩
      case neg =>
        have ma1 : (x.ma == 0) = false := beq_eq_false_iff_ne.2 hma
        have ma2 : (x.ma != 0) = true := bne_iff_ne.2 hma
        have hr : kindE x = 6 := by unfold kindE; simp [k, hdat, hma]
        rw [hr]; clear hr
        go_enter Tryz.func70, Tryz.ntmps70
        go_wp2
        go_ret
        exact ⟨rfl, eA _ _⟩
    case neg =>
      have dat1 : x.dat.toList.isEmpty = false := by simpa using hdat
      have hr : kindE x = 6 := by unfold kindE; simp [k, hdat]
      rw [hr]; clear hr
      go_enter Tryz.func70, Tryz.ntmps70
      go_wp2
      go_ret
      exact ⟨rfl, eA _ _⟩
  case neg =>
  have n1 := k
  clear k
  by_cases k : x.kd = 2
  case pos =>
    clear k0 k6
    by_cases hma : x.ma = 0
    case pos =>
      by_cases hmi : x.mi = 0
      case pos =>
        by_cases z : 384 < x.dat.size
        case pos =>
          have hr : kindE x = 3 := by unfold kindE; simp [k, hma, hmi, z]
          rw [hr]; clear hr
          go_enter Tryz.func70, Tryz.ntmps70
          go_wp2
          go_ret
          exact ⟨rfl, eA _ _⟩
        case neg =>
          have hr : kindE x = 0 := by unfold kindE; simp [k, hma, hmi, z]
          rw [hr]; clear hr
          go_enter Tryz.func70, Tryz.ntmps70
          go_wp2
          go_ret
          exact ⟨rfl, eA _ _⟩
      case neg =>
        have mi1 : (x.mi == 0) = false := beq_eq_false_iff_ne.2 hmi
        have mi2 : (x.mi != 0) = true := bne_iff_ne.2 hmi
        have hr : kindE x = 6 := by unfold kindE; simp [k, hma, hmi]
        rw [hr]; clear hr
        go_enter Tryz.func70, Tryz.ntmps70
        go_wp2
        go_ret
        exact ⟨rfl, eA _ _⟩
    case neg =>
      have ma1 : (x.ma == 0) = false := beq_eq_false_iff_ne.2 hma
      have ma2 : (x.ma != 0) = true := bne_iff_ne.2 hma
      have hr : kindE x = 6 := by unfold kindE; simp [k, hma]
      rw [hr]; clear hr
      go_enter Tryz.func70, Tryz.ntmps70
      go_wp2
      go_ret
      exact ⟨rfl, eA _ _⟩
  case neg =>
  have n2 := k
  clear k
  by_cases k : x.kd = 3
  case pos =>
    clear k0 k6
    by_cases hma : x.ma = 0
    case pos =>
      by_cases hmi : x.mi = 0
      case pos =>
        by_cases hdat : x.dat.toList = []
        case pos =>
          have dat1 : x.dat.toList.isEmpty = true := by rw [hdat]; rfl
          have dat2 : x.dat.size = 0 := empty_size hdat
          have hr : kindE x = 6 := by unfold kindE; simp [k, hma, hmi, hdat]
          rw [hr]; clear hr
          go_enter Tryz.func70, Tryz.ntmps70
          go_wp2
          go_ret
          exact ⟨rfl, eA _ _⟩
        case neg =>
          have dat1 : x.dat.toList.isEmpty = false := by simpa using hdat
          by_cases z : 200 < x.dat.size
          case pos =>
            have hr : kindE x = 3 := by unfold kindE; simp [k, hma, hmi, hdat, z]
            rw [hr]; clear hr
            go_enter Tryz.func70, Tryz.ntmps70
            go_wp2
            go_ret
            exact ⟨rfl, eA _ _⟩
          case neg =>
            have hr : kindE x = 0 := by unfold kindE; simp [k, hma, hmi, hdat, z]
            rw [hr]; clear hr
            go_enter Tryz.func70, Tryz.ntmps70
            go_wp2
            go_ret
            exact ⟨rfl, eA _ _⟩
      case neg =>
        have mi1 : (x.mi == 0) = false := beq_eq_false_iff_ne.2 hmi
        have mi2 : (x.mi != 0) = true := bne_iff_ne.2 hmi
        have hr : kindE x = 6 := by unfold kindE; simp [k, hma, hmi]
        rw [hr]; clear hr
        go_enter Tryz.func70, Tryz.ntmps70
        go_wp2
        go_ret
        exact ⟨rfl, eA _ _⟩
    case neg =>
      have ma1 : (x.ma == 0) = false := beq_eq_false_iff_ne.2 hma
      have ma2 : (x.ma != 0) = true := bne_iff_ne.2 hma
      have hr : kindE x = 6 := by unfold kindE; simp [k, hma]
      rw [hr]; clear hr
      go_enter Tryz.func70, Tryz.ntmps70
      go_wp2
      go_ret
      exact ⟨rfl, eA _ _⟩
  case neg =>
  have n3 := k
  clear k
  by_cases k : x.kd = 4
  case pos =>
    clear k0 k6
    by_cases hdat : x.dat.toList = []
    case pos =>
      have dat1 : x.dat.toList.isEmpty = true := by rw [hdat]; rfl
      have dat2 : x.dat.size = 0 := empty_size hdat
      by_cases r1 : x.ma < 0
      case pos =>
        have hr : kindE x = 7 := by unfold kindE; simp [k, hdat, r1]
        rw [hr]; clear hr
        go_enter Tryz.func70, Tryz.ntmps70
        go_wp2
        go_ret
        exact ⟨rfl, eA _ _⟩
      case neg =>
        by_cases r2 : 255 < x.ma
        case pos =>
          have hr : kindE x = 7 := by unfold kindE; simp [k, hdat, r1, r2]
          rw [hr]; clear hr
          go_enter Tryz.func70, Tryz.ntmps70
          go_wp2
          go_ret
          exact ⟨rfl, eA _ _⟩
        case neg =>
          by_cases r3 : x.mi < 0
          case pos =>
            have hr : kindE x = 7 := by unfold kindE; simp [k, hdat, r1, r2, r3]
            rw [hr]; clear hr
            go_enter Tryz.func70, Tryz.ntmps70
            go_wp2
            go_ret
            exact ⟨rfl, eA _ _⟩
          case neg =>
            by_cases r4 : 255 < x.mi
            case pos =>
              have hr : kindE x = 7 := by unfold kindE; simp [k, hdat, r1, r2, r3, r4]
              rw [hr]; clear hr
              go_enter Tryz.func70, Tryz.ntmps70
              go_wp2
              go_ret
              exact ⟨rfl, eA _ _⟩
            case neg =>
              have hr : kindE x = 0 := by unfold kindE; simp [k, hdat, r1, r2, r3, r4]
              rw [hr]; clear hr
              go_enter Tryz.func70, Tryz.ntmps70
              go_wp2
              go_ret
              exact ⟨rfl, eA _ _⟩
    case neg =>
      have dat1 : x.dat.toList.isEmpty = false := by simpa using hdat
      have hr : kindE x = 6 := by unfold kindE; simp [k, hdat]
      rw [hr]; clear hr
      go_enter Tryz.func70, Tryz.ntmps70
      go_wp2
      go_ret
      exact ⟨rfl, eA _ _⟩
  case neg =>
  have n4 := k
  clear k
  have k : x.kd = 5 := by omega
  clear k0 k6 n1 n2 n3 n4
  by_cases hdat : x.dat.toList = []
  case pos =>
    have dat1 : x.dat.toList.isEmpty = true := by rw [hdat]; rfl
    have dat2 : x.dat.size = 0 := empty_size hdat
    by_cases hma : x.ma = 0
    case pos =>
      by_cases hmi : x.mi = 0
      case pos =>
        by_cases hats : x.ats.length = 0
        case pos =>
          by_cases hcl : x.cl = 0
          case pos =>
            have hr : kindE x = 0 := by unfold kindE; simp [k, hdat, hma, hmi, hats, hcl]
            rw [hr]; clear hr
            go_enter Tryz.func70, Tryz.ntmps70
            go_wp2
            go_ret
            exact ⟨rfl, eA _ _⟩
          case neg =>
            have cl1 : (x.cl == 0) = false := beq_eq_false_iff_ne.2 hcl
            have cl2 : (x.cl != 0) = true := bne_iff_ne.2 hcl
            have hr : kindE x = 6 := by unfold kindE; simp [k, hdat, hma, hmi, hats, hcl]
            rw [hr]; clear hr
            go_enter Tryz.func70, Tryz.ntmps70
            go_wp2
            go_ret
            exact ⟨rfl, eA _ _⟩
        case neg =>
          have ats1 : 0 < x.ats.length := by omega
          have hr : kindE x = 6 := by unfold kindE; simp [k, hdat, hma, hmi, hats]
          rw [hr]; clear hr
          go_enter Tryz.func70, Tryz.ntmps70
          go_wp2
          go_ret
          exact ⟨rfl, eA _ _⟩
      case neg =>
        have mi1 : (x.mi == 0) = false := beq_eq_false_iff_ne.2 hmi
        have mi2 : (x.mi != 0) = true := bne_iff_ne.2 hmi
        have hr : kindE x = 6 := by unfold kindE; simp [k, hdat, hma, hmi]
        rw [hr]; clear hr
        go_enter Tryz.func70, Tryz.ntmps70
        go_wp2
        go_ret
        exact ⟨rfl, eA _ _⟩
    case neg =>
      have ma1 : (x.ma == 0) = false := beq_eq_false_iff_ne.2 hma
      have ma2 : (x.ma != 0) = true := bne_iff_ne.2 hma
      have hr : kindE x = 6 := by unfold kindE; simp [k, hdat, hma]
      rw [hr]; clear hr
      go_enter Tryz.func70, Tryz.ntmps70
      go_wp2
      go_ret
      exact ⟨rfl, eA _ _⟩
  case neg =>
    have dat1 : x.dat.toList.isEmpty = false := by simpa using hdat
    have hr : kindE x = 6 := by unfold kindE; simp [k, hdat]
    rw [hr]; clear hr
    go_enter Tryz.func70, Tryz.ntmps70
    go_wp2
    go_ret
    exact ⟨rfl, eA _ _⟩
set_option maxRecDepth 100000 in
set_option maxHeartbeats 1000000 in
theorem treeFields (x : TrN) (va : Value) (w : World) (hv : ∃ a cap, va = .slice a x.ats.length cap) : RetB Tryz.prog 179 #[trV x va] w (.int .i64 (kindE x)) := by
  unfold RetB trV
  obtain ⟨aa, cap, rfl⟩ := hv
  by_cases k0 : x.kd < 1
  case pos =>
    have n1 : (x.kd == 1) = false := beq_eq_false_iff_ne.2 (by omega)
    have n2 : (x.kd == 2) = false := beq_eq_false_iff_ne.2 (by omega)
    have n3 : (x.kd == 3) = false := beq_eq_false_iff_ne.2 (by omega)
    have n4 : (x.kd == 4) = false := beq_eq_false_iff_ne.2 (by omega)
    have n5 : (x.kd == 5) = false := beq_eq_false_iff_ne.2 (by omega)
    by_cases hma : x.ma = 0
    case pos =>
      by_cases hmi : x.mi = 0
      case pos =>
        have hr : kindE x = 14 := by unfold kindE; simp [k0]
        rw [hr]; clear hr
        go_enter Tryz.func179, Tryz.ntmps179
        go_wp2
        go_ret
        exact ⟨rfl, eA _ _⟩
      case neg =>
        have mi1 : (x.mi == 0) = false := beq_eq_false_iff_ne.2 hmi
        have mi2 : (x.mi != 0) = true := bne_iff_ne.2 hmi
        have hr : kindE x = 14 := by unfold kindE; simp [k0]
        rw [hr]; clear hr
        go_enter Tryz.func179, Tryz.ntmps179
        go_wp2
        go_ret
        exact ⟨rfl, eA _ _⟩
    case neg =>
      have ma1 : (x.ma == 0) = false := beq_eq_false_iff_ne.2 hma
      have ma2 : (x.ma != 0) = true := bne_iff_ne.2 hma
      have hr : kindE x = 14 := by unfold kindE; simp [k0]
      rw [hr]; clear hr
      go_enter Tryz.func179, Tryz.ntmps179
      go_wp2
      go_ret
      exact ⟨rfl, eA _ _⟩
  by_cases k6 : 5 < x.kd
  case pos =>
    have n1 : (x.kd == 1) = false := beq_eq_false_iff_ne.2 (by omega)
    have n2 : (x.kd == 2) = false := beq_eq_false_iff_ne.2 (by omega)
    have n3 : (x.kd == 3) = false := beq_eq_false_iff_ne.2 (by omega)
    have n4 : (x.kd == 4) = false := beq_eq_false_iff_ne.2 (by omega)
    have n5 : (x.kd == 5) = false := beq_eq_false_iff_ne.2 (by omega)
    by_cases hma : x.ma = 0
    case pos =>
      by_cases hmi : x.mi = 0
      case pos =>
        have hr : kindE x = 14 := by unfold kindE; simp [k6]
        rw [hr]; clear hr
        go_enter Tryz.func179, Tryz.ntmps179
        go_wp2
        go_ret
        exact ⟨rfl, eA _ _⟩
      case neg =>
        have mi1 : (x.mi == 0) = false := beq_eq_false_iff_ne.2 hmi
        have mi2 : (x.mi != 0) = true := bne_iff_ne.2 hmi
        have hr : kindE x = 14 := by unfold kindE; simp [k6]
        rw [hr]; clear hr
        go_enter Tryz.func179, Tryz.ntmps179
        go_wp2
        go_ret
        exact ⟨rfl, eA _ _⟩
    case neg =>
      have ma1 : (x.ma == 0) = false := beq_eq_false_iff_ne.2 hma
      have ma2 : (x.ma != 0) = true := bne_iff_ne.2 hma
      have hr : kindE x = 14 := by unfold kindE; simp [k6]
      rw [hr]; clear hr
      go_enter Tryz.func179, Tryz.ntmps179
      go_wp2
      go_ret
      exact ⟨rfl, eA _ _⟩
  by_cases k : x.kd = 1
  case pos =>
    clear k0 k6
    by_cases hma : x.ma = 0
    case pos =>
      by_cases hmi : x.mi = 0
      case pos =>
        by_cases hdat : x.dat.toList = []
        case pos =>
          have dat1 : x.dat.toList.isEmpty = true := by rw [hdat]; rfl
          have dat2 : x.dat.size = 0 := empty_size hdat
          by_cases hcl : x.cl = 0
          case pos =>
            have hr : kindE x = 0 := by unfold kindE; simp [k, hma, hmi, hdat, hcl]
            rw [hr]; clear hr
            go_enter Tryz.func179, Tryz.ntmps179
            go_wp2
            go_ret
            exact ⟨rfl, eA _ _⟩
          case neg =>
            have cl1 : (x.cl == 0) = false := beq_eq_false_iff_ne.2 hcl
            have cl2 : (x.cl != 0) = true := bne_iff_ne.2 hcl
            have hr : kindE x = 6 := by unfold kindE; simp [k, hma, hmi, hdat, hcl]
            rw [hr]; clear hr
            go_enter Tryz.func179, Tryz.ntmps179
            go_wp2
            go_ret
            exact ⟨rfl, eA _ _⟩
        case neg =>
          have dat1 : x.dat.toList.isEmpty = false := by simpa using hdat
          have hr : kindE x = 6 := by unfold kindE; simp [k, hma, hmi, hdat]
          rw [hr]; clear hr
          go_enter Tryz.func179, Tryz.ntmps179
          go_wp2
          go_ret
          exact ⟨rfl, eA _ _⟩
      case neg =>
        have mi1 : (x.mi == 0) = false := beq_eq_false_iff_ne.2 hmi
        have mi2 : (x.mi != 0) = true := bne_iff_ne.2 hmi
        by_cases hdat : x.dat.toList = []
        case pos =>
          have dat1 : x.dat.toList.isEmpty = true := by rw [hdat]; rfl
          have dat2 : x.dat.size = 0 := empty_size hdat
          have hr : kindE x = 6 := by unfold kindE; simp [k, hma, hmi, hdat]
          rw [hr]; clear hr
          go_enter Tryz.func179, Tryz.ntmps179
          go_wp2
          go_ret
          exact ⟨rfl, eA _ _⟩
        case neg =>
          have dat1 : x.dat.toList.isEmpty = false := by simpa using hdat
          have hr : kindE x = 6 := by unfold kindE; simp [k, hma, hmi, hdat]
          rw [hr]; clear hr
          go_enter Tryz.func179, Tryz.ntmps179
          go_wp2
          go_ret
          exact ⟨rfl, eA _ _⟩
    case neg =>
      have ma1 : (x.ma == 0) = false := beq_eq_false_iff_ne.2 hma
      have ma2 : (x.ma != 0) = true := bne_iff_ne.2 hma
      by_cases hdat : x.dat.toList = []
      case pos =>
        have dat1 : x.dat.toList.isEmpty = true := by rw [hdat]; rfl
        have dat2 : x.dat.size = 0 := empty_size hdat
        have hr : kindE x = 6 := by unfold kindE; simp [k, hma, hdat]
        rw [hr]; clear hr
        go_enter Tryz.func179, Tryz.ntmps179
        go_wp2
        go_ret
        exact ⟨rfl, eA _ _⟩
      case neg =>
        have dat1 : x.dat.toList.isEmpty = false := by simpa using hdat
        have hr : kindE x = 6 := by unfold kindE; simp [k, hma, hdat]
        rw [hr]; clear hr
        go_enter Tryz.func179, Tryz.ntmps179
        go_wp2
        go_ret
        exact ⟨rfl, eA _ _⟩
  case neg =>
  have n1 := k
  clear k
  by_cases k : x.kd = 2
  case pos =>
    clear k0 k6
    by_cases hma : x.ma = 0
    case pos =>
      by_cases hmi : x.mi = 0
      case pos =>
        by_cases z : 384 < x.dat.size
        case pos =>
          have hr : kindE x = 3 := by unfold kindE; simp [k, hma, hmi, z]
          rw [hr]; clear hr
          go_enter Tryz.func179, Tryz.ntmps179
          go_wp2
          go_ret
          exact ⟨rfl, eA _ _⟩
        case neg =>
          have hr : kindE x = 0 := by unfold kindE; simp [k, hma, hmi, z]
          rw [hr]; clear hr
          go_enter Tryz.func179, Tryz.ntmps179
          go_wp2
          go_ret
          exact ⟨rfl, eA _ _⟩
      case neg =>
        have mi1 : (x.mi == 0) = false := beq_eq_false_iff_ne.2 hmi
        have mi2 : (x.mi != 0) = true := bne_iff_ne.2 hmi
        have hr : kindE x = 6 := by unfold kindE; simp [k, hma, hmi]
        rw [hr]; clear hr
        go_enter Tryz.func179, Tryz.ntmps179
        go_wp2
        go_ret
        exact ⟨rfl, eA _ _⟩
    case neg =>
      have ma1 : (x.ma == 0) = false := beq_eq_false_iff_ne.2 hma
      have ma2 : (x.ma != 0) = true := bne_iff_ne.2 hma
      have hr : kindE x = 6 := by unfold kindE; simp [k, hma]
      rw [hr]; clear hr
      go_enter Tryz.func179, Tryz.ntmps179
      go_wp2
      go_ret
      exact ⟨rfl, eA _ _⟩
  case neg =>
  have n2 := k
  clear k
  by_cases k : x.kd = 3
  case pos =>
    clear k0 k6
    by_cases hma : x.ma = 0
    case pos =>
      by_cases hmi : x.mi = 0
      case pos =>
        by_cases hdat : x.dat.toList = []
        case pos =>
          have dat1 : x.dat.toList.isEmpty = true := by rw [hdat]; rfl
          have dat2 : x.dat.size = 0 := empty_size hdat
          have hr : kindE x = 6 := by unfold kindE; simp [k, hma, hmi, hdat]
          rw [hr]; clear hr
          go_enter Tryz.func179, Tryz.ntmps179
          go_wp2
          go_ret
          exact ⟨rfl, eA _ _⟩
        case neg =>
          have dat1 : x.dat.toList.isEmpty = false := by simpa using hdat
          by_cases z : 200 < x.dat.size
          case pos =>
            have hr : kindE x = 3 := by unfold kindE; simp [k, hma, hmi, hdat, z]
            rw [hr]; clear hr
            go_enter Tryz.func179, Tryz.ntmps179
            go_wp2
            go_ret
            exact ⟨rfl, eA _ _⟩
          case neg =>
            have hr : kindE x = 0 := by unfold kindE; simp [k, hma, hmi, hdat, z]
            rw [hr]; clear hr
            go_enter Tryz.func179, Tryz.ntmps179
            go_wp2
            go_ret
            exact ⟨rfl, eA _ _⟩
      case neg =>
        have mi1 : (x.mi == 0) = false := beq_eq_false_iff_ne.2 hmi
        have mi2 : (x.mi != 0) = true := bne_iff_ne.2 hmi
        have hr : kindE x = 6 := by unfold kindE; simp [k, hma, hmi]
        rw [hr]; clear hr
        go_enter Tryz.func179, Tryz.ntmps179
        go_wp2
        go_ret
        exact ⟨rfl, eA _ _⟩
    case neg =>
      have ma1 : (x.ma == 0) = false := beq_eq_false_iff_ne.2 hma
      have ma2 : (x.ma != 0) = true := bne_iff_ne.2 hma
      have hr : kindE x = 6 := by unfold kindE; simp [k, hma]
      rw [hr]; clear hr
      go_enter Tryz.func179, Tryz.ntmps179
      go_wp2
      go_ret
      exact ⟨rfl, eA _ _⟩
  case neg =>
  have n3 := k
  clear k
  by_cases k : x.kd = 4
  case pos =>
    clear k0 k6
    by_cases hdat : x.dat.toList = []
    case pos =>
      have dat1 : x.dat.toList.isEmpty = true := by rw [hdat]; rfl
      have dat2 : x.dat.size = 0 := empty_size hdat
      by_cases hma : x.ma = 0
      case pos =>
        by_cases hmi : x.mi = 0
        case pos =>
          have hr : kindE x = 0 := by unfold kindE; simp [k, hdat, hma, hmi]
          rw [hr]; clear hr
          go_enter Tryz.func179, Tryz.ntmps179
          go_wp2
          go_ret
          exact ⟨rfl, eA _ _⟩
        case neg =>
          have mi1 : (x.mi == 0) = false := beq_eq_false_iff_ne.2 hmi
          have mi2 : (x.mi != 0) = true := bne_iff_ne.2 hmi
          by_cases r3 : x.mi < 0
          case pos =>
            have hr : kindE x = 7 := by unfold kindE; simp [k, hdat, hma, r3]
            rw [hr]; clear hr
            go_enter Tryz.func179, Tryz.ntmps179
            go_wp2
            go_ret
            exact ⟨rfl, eA _ _⟩
          case neg =>
            by_cases r4 : 255 < x.mi
            case pos =>
              have hr : kindE x = 7 := by unfold kindE; simp [k, hdat, hma, r3, r4]
              rw [hr]; clear hr
              go_enter Tryz.func179, Tryz.ntmps179
              go_wp2
              go_ret
              exact ⟨rfl, eA _ _⟩
            case neg =>
              have hr : kindE x = 0 := by unfold kindE; simp [k, hdat, hma, r3, r4]
              rw [hr]; clear hr
              go_enter Tryz.func179, Tryz.ntmps179
              go_wp2
              go_ret
              exact ⟨rfl, eA _ _⟩
      case neg =>
        have ma1 : (x.ma == 0) = false := beq_eq_false_iff_ne.2 hma
        have ma2 : (x.ma != 0) = true := bne_iff_ne.2 hma
        by_cases r1 : x.ma < 0
        case pos =>
          have hr : kindE x = 7 := by unfold kindE; simp [k, hdat, r1]
          rw [hr]; clear hr
          go_enter Tryz.func179, Tryz.ntmps179
          go_wp2
          go_ret
          exact ⟨rfl, eA _ _⟩
        case neg =>
          by_cases r2 : 255 < x.ma
          case pos =>
            have hr : kindE x = 7 := by unfold kindE; simp [k, hdat, r1, r2]
            rw [hr]; clear hr
            go_enter Tryz.func179, Tryz.ntmps179
            go_wp2
            go_ret
            exact ⟨rfl, eA _ _⟩
          case neg =>
            by_cases r3 : x.mi < 0
            case pos =>
              have hr : kindE x = 7 := by unfold kindE; simp [k, hdat, r1, r2, r3]
              rw [hr]; clear hr
              go_enter Tryz.func179, Tryz.ntmps179
              go_wp2
              go_ret
              exact ⟨rfl, eA _ _⟩
            case neg =>
              by_cases r4 : 255 < x.mi
              case pos =>
                have hr : kindE x = 7 := by unfold kindE; simp [k, hdat, r1, r2, r3, r4]
                rw [hr]; clear hr
                go_enter Tryz.func179, Tryz.ntmps179
                go_wp2
                go_ret
                exact ⟨rfl, eA _ _⟩
              case neg =>
                have hr : kindE x = 0 := by unfold kindE; simp [k, hdat, r1, r2, r3, r4]
                rw [hr]; clear hr
                go_enter Tryz.func179, Tryz.ntmps179
                go_wp2
                go_ret
                exact ⟨rfl, eA _ _⟩
    case neg =>
      have dat1 : x.dat.toList.isEmpty = false := by simpa using hdat
      by_cases hma : x.ma = 0
      case pos =>
        by_cases hmi : x.mi = 0
        case pos =>
          have hr : kindE x = 6 := by unfold kindE; simp [k, hdat]
          rw [hr]; clear hr
          go_enter Tryz.func179, Tryz.ntmps179
          go_wp2
          go_ret
          exact ⟨rfl, eA _ _⟩
        case neg =>
          have mi1 : (x.mi == 0) = false := beq_eq_false_iff_ne.2 hmi
          have mi2 : (x.mi != 0) = true := bne_iff_ne.2 hmi
          have hr : kindE x = 6 := by unfold kindE; simp [k, hdat]
          rw [hr]; clear hr
          go_enter Tryz.func179, Tryz.ntmps179
          go_wp2
          go_ret
          exact ⟨rfl, eA _ _⟩
      case neg =>
        have ma1 : (x.ma == 0) = false := beq_eq_false_iff_ne.2 hma
        have ma2 : (x.ma != 0) = true := bne_iff_ne.2 hma
        have hr : kindE x = 6 := by unfold kindE; simp [k, hdat]
        rw [hr]; clear hr
        go_enter Tryz.func179, Tryz.ntmps179
        go_wp2
        go_ret
        exact ⟨rfl, eA _ _⟩
  case neg =>
  have n4 := k
  clear k
  have k : x.kd = 5 := by omega
  clear k0 k6 n1 n2 n3 n4
  by_cases hma : x.ma = 0
  case pos =>
    by_cases hmi : x.mi = 0
    case pos =>
      by_cases hdat : x.dat.toList = []
      case pos =>
        have dat1 : x.dat.toList.isEmpty = true := by rw [hdat]; rfl
        have dat2 : x.dat.size = 0 := empty_size hdat
        by_cases hcl : x.cl = 0
        case pos =>
          by_cases hats : x.ats.length = 0
          case pos =>
            have hr : kindE x = 0 := by unfold kindE; simp [k, hma, hmi, hdat, hcl, hats]
            rw [hr]; clear hr
            go_enter Tryz.func179, Tryz.ntmps179
            go_wp2
            go_ret
            exact ⟨rfl, eA _ _⟩
          case neg =>
            have ats1 : 0 < x.ats.length := by omega
            have hr : kindE x = 6 := by unfold kindE; simp [k, hma, hmi, hdat, hcl, hats]
            rw [hr]; clear hr
            go_enter Tryz.func179, Tryz.ntmps179
            go_wp2
            go_ret
            exact ⟨rfl, eA _ _⟩
        case neg =>
          have cl1 : (x.cl == 0) = false := beq_eq_false_iff_ne.2 hcl
          have cl2 : (x.cl != 0) = true := bne_iff_ne.2 hcl
          have hr : kindE x = 6 := by unfold kindE; simp [k, hma, hmi, hdat, hcl]
          rw [hr]; clear hr
          go_enter Tryz.func179, Tryz.ntmps179
          go_wp2
          go_ret
          exact ⟨rfl, eA _ _⟩
      case neg =>
        have dat1 : x.dat.toList.isEmpty = false := by simpa using hdat
        have hr : kindE x = 6 := by unfold kindE; simp [k, hma, hmi, hdat]
        rw [hr]; clear hr
        go_enter Tryz.func179, Tryz.ntmps179
        go_wp2
        go_ret
        exact ⟨rfl, eA _ _⟩
    case neg =>
      have mi1 : (x.mi == 0) = false := beq_eq_false_iff_ne.2 hmi
      have mi2 : (x.mi != 0) = true := bne_iff_ne.2 hmi
      by_cases hdat : x.dat.toList = []
      case pos =>
        have dat1 : x.dat.toList.isEmpty = true := by rw [hdat]; rfl
        have dat2 : x.dat.size = 0 := empty_size hdat
        have hr : kindE x = 6 := by unfold kindE; simp [k, hma, hmi, hdat]
        rw [hr]; clear hr
        go_enter Tryz.func179, Tryz.ntmps179
        go_wp2
        go_ret
        exact ⟨rfl, eA _ _⟩
      case neg =>
        have dat1 : x.dat.toList.isEmpty = false := by simpa using hdat
        have hr : kindE x = 6 := by unfold kindE; simp [k, hma, hmi, hdat]
        rw [hr]; clear hr
        go_enter Tryz.func179, Tryz.ntmps179
        go_wp2
        go_ret
        exact ⟨rfl, eA _ _⟩
  case neg =>
    have ma1 : (x.ma == 0) = false := beq_eq_false_iff_ne.2 hma
    have ma2 : (x.ma != 0) = true := bne_iff_ne.2 hma
    by_cases hdat : x.dat.toList = []
    case pos =>
      have dat1 : x.dat.toList.isEmpty = true := by rw [hdat]; rfl
      have dat2 : x.dat.size = 0 := empty_size hdat
      have hr : kindE x = 6 := by unfold kindE; simp [k, hma, hdat]
      rw [hr]; clear hr
      go_enter Tryz.func179, Tryz.ntmps179
      go_wp2
      go_ret
      exact ⟨rfl, eA _ _⟩
    case neg =>
      have dat1 : x.dat.toList.isEmpty = false := by simpa using hdat
      have hr : kindE x = 6 := by unfold kindE; simp [k, hma, hdat]
      rw [hr]; clear hr
      go_enter Tryz.func179, Tryz.ntmps179
      go_wp2
      go_ret
      exact ⟨rfl, eA _ _⟩
end Go.Proofs.YtimpejaaeinplaaGreatDoor
