/- NodB NodC NodD NodE -/
import Derived.Test.YtimpejaaeinplaaGreatDoorJI2
import Derived.Test.YtimpejaaeinplaaGreatDoorJOwnA
namespace Go.Proofs.YtimpejaaeinplaaGreatDoor
open Go.RowKit
set_option maxRecDepth 100000 in
set_option maxHeartbeats 1000000 in
theorem refKind (x : TrN) (va : Value) (w : World) (hv : ∃ a cap, va = .slice a x.ats.length cap) : RetB Tryz.prog 70 #[trV x va] w (.int .i64 (kindE x)) := by
 unfold RetB trV
 obtain ⟨aa, cap, rfl⟩ := hv
 by_cases k0 : x.kd < 1
 case pos =>
  have hr : kindE x = 14 := by unfold kindE; simp [k0]
  rw [hr]; clear hr
  go_enter Tryz.func70, Tryz.ntmps70
  go_wp2
  go_ret
  exact ⟨rfl, eA _ _⟩
 by_cases k6 : 5 < x.kd
 case pos =>
  have hr : kindE x = 14 := by unfold kindE; simp [k6]
  rw [hr]; clear hr
  go_enter Tryz.func70, Tryz.ntmps70
  go_wp2
  go_ret
  exact ⟨rfl, eA _ _⟩
 by_cases k : x.kd = 1
 case pos =>
  clear k0 k6
  by_cases hdat : x.dat.toList = []
  case pos =>
   have dat1 : x.dat.toList.isEmpty = true := by rw [hdat]; rfl
   have dat2 : x.dat.size = 0 := empty_size hdat
   by_cases hma : x.ma = 0
   case pos =>
    by_cases hmi : x.mi = 0
    case pos =>
     by_cases hcl : x.cl = 0
     case pos =>
      have hr : kindE x = 0 := by unfold kindE; simp [k, hdat, hma, hmi, hcl]
      rw [hr]; clear hr
      go_enter Tryz.func70, Tryz.ntmps70
      go_wp2
      go_ret
      exact ⟨rfl, eA _ _⟩
     case neg =>
      have cl1 : (x.cl == 0) = false := nB hcl
      have cl2 : (x.cl != 0) = true := bne_iff_ne.2 hcl
      have hr : kindE x = 6 := by unfold kindE; simp [k, hdat, hma, hmi, hcl]
      rw [hr]; clear hr
      go_enter Tryz.func70, Tryz.ntmps70
      go_wp2
      go_ret
      exact ⟨rfl, eA _ _⟩
    case neg =>
     have mi1 : (x.mi == 0) = false := nB hmi
     have mi2 : (x.mi != 0) = true := bne_iff_ne.2 hmi
     have hr : kindE x = 6 := by unfold kindE; simp [k, hdat, hma, hmi]
     rw [hr]; clear hr
     go_enter Tryz.func70, Tryz.ntmps70
     go_wp2
     go_ret
     exact ⟨rfl, eA _ _⟩
   case neg =>
    have ma1 : (x.ma == 0) = false := nB hma
    have ma2 : (x.ma != 0) = true := bne_iff_ne.2 hma
    have hr : kindE x = 6 := by unfold kindE; simp [k, hdat, hma]
    rw [hr]; clear hr
    go_enter Tryz.func70, Tryz.ntmps70
    go_wp2
    go_ret
    exact ⟨rfl, eA _ _⟩
  case neg =>
   have dat1 : x.dat.toList.isEmpty = false := by simpa using hdat
   have hr : kindE x = 6 := by unfold kindE; simp [k, hdat]
   rw [hr]; clear hr
   go_enter Tryz.func70, Tryz.ntmps70
   go_wp2
   go_ret
   exact ⟨rfl, eA _ _⟩
 case neg =>
 have n1 := k
 clear k
 by_cases k : x.kd = 2
 case pos =>
  clear k0 k6
  by_cases hma : x.ma = 0
  case pos =>
   by_cases hmi : x.mi = 0
   case pos =>
    by_cases z : 384 < x.dat.size
    case pos =>
     have hr : kindE x = 3 := by unfold kindE; simp [k, hma, hmi, z]
     rw [hr]; clear hr
     go_enter Tryz.func70, Tryz.ntmps70
     go_wp2
     go_ret
     exact ⟨rfl, eA _ _⟩
    case neg =>
     have hr : kindE x = 0 := by unfold kindE; simp [k, hma, hmi, z]
     rw [hr]; clear hr
     go_enter Tryz.func70, Tryz.ntmps70
     go_wp2
     go_ret
     exact ⟨rfl, eA _ _⟩
   case neg =>
    have mi1 : (x.mi == 0) = false := nB hmi
    have mi2 : (x.mi != 0) = true := bne_iff_ne.2 hmi
    have hr : kindE x = 6 := by unfold kindE; simp [k, hma, hmi]
    rw [hr]; clear hr
    go_enter Tryz.func70, Tryz.ntmps70
    go_wp2
    go_ret
    exact ⟨rfl, eA _ _⟩
  case neg =>
   have ma1 : (x.ma == 0) = false := nB hma
   have ma2 : (x.ma != 0) = true := bne_iff_ne.2 hma
   have hr : kindE x = 6 := by unfold kindE; simp [k, hma]
   rw [hr]; clear hr
   go_enter Tryz.func70, Tryz.ntmps70
   go_wp2
   go_ret
   exact ⟨rfl, eA _ _⟩
 case neg =>
 have n2 := k
 clear k
 by_cases k : x.kd = 3
 case pos =>
  clear k0 k6
  by_cases hma : x.ma = 0
  case pos =>
   by_cases hmi : x.mi = 0
   case pos =>
    by_cases hdat : x.dat.toList = []
    case pos =>
     have dat1 : x.dat.toList.isEmpty = true := by rw [hdat]; rfl
     have dat2 : x.dat.size = 0 := empty_size hdat
     have hr : kindE x = 6 := by unfold kindE; simp [k, hma, hmi, hdat]
     rw [hr]; clear hr
     go_enter Tryz.func70, Tryz.ntmps70
     go_wp2
     go_ret
     exact ⟨rfl, eA _ _⟩
    case neg =>
     have dat1 : x.dat.toList.isEmpty = false := by simpa using hdat
     by_cases z : 200 < x.dat.size
     case pos =>
      have hr : kindE x = 3 := by unfold kindE; simp [k, hma, hmi, hdat, z]
      rw [hr]; clear hr
      go_enter Tryz.func70, Tryz.ntmps70
      go_wp2
      go_ret
      exact ⟨rfl, eA _ _⟩
     case neg =>
      have hr : kindE x = 0 := by unfold kindE; simp [k, hma, hmi, hdat, z]
      rw [hr]; clear hr
      go_enter Tryz.func70, Tryz.ntmps70
      go_wp2
      go_ret
      exact ⟨rfl, eA _ _⟩
   case neg =>
    have mi1 : (x.mi == 0) = false := nB hmi
    have mi2 : (x.mi != 0) = true := bne_iff_ne.2 hmi
    have hr : kindE x = 6 := by unfold kindE; simp [k, hma, hmi]
    rw [hr]; clear hr
    go_enter Tryz.func70, Tryz.ntmps70
    go_wp2
    go_ret
    exact ⟨rfl, eA _ _⟩
  case neg =>
   have ma1 : (x.ma == 0) = false := nB hma
   have ma2 : (x.ma != 0) = true := bne_iff_ne.2 hma
   have hr : kindE x = 6 := by unfold kindE; simp [k, hma]
   rw [hr]; clear hr
   go_enter Tryz.func70, Tryz.ntmps70
   go_wp2
   go_ret
   exact ⟨rfl, eA _ _⟩
 case neg =>
 have n3 := k
 clear k
 by_cases k : x.kd = 4
 case pos =>
  clear k0 k6
  by_cases hdat : x.dat.toList = []
  case pos =>
   have dat1 : x.dat.toList.isEmpty = true := by rw [hdat]; rfl
   have dat2 : x.dat.size = 0 := empty_size hdat
   by_cases r1 : x.ma < 0
   case pos =>
    have hr : kindE x = 7 := by unfold kindE; simp [k, hdat, r1]
    rw [hr]; clear hr
    go_enter Tryz.func70, Tryz.ntmps70
    go_wp2
    go_ret
    exact ⟨rfl, eA _ _⟩
   case neg =>
    by_cases r2 : 255 < x.ma
    case pos =>
     have hr : kindE x = 7 := by unfold kindE; simp [k, hdat, r1, r2]
     rw [hr]; clear hr
     go_enter Tryz.func70, Tryz.ntmps70
     go_wp2
     go_ret
     exact ⟨rfl, eA _ _⟩
    case neg =>
     by_cases r3 : x.mi < 0
     case pos =>
      have hr : kindE x = 7 := by unfold kindE; simp [k, hdat, r1, r2, r3]
      rw [hr]; clear hr
      go_enter Tryz.func70, Tryz.ntmps70
      go_wp2
      go_ret
      exact ⟨rfl, eA _ _⟩
     case neg =>
      by_cases r4 : 255 < x.mi
      case pos =>
       have hr : kindE x = 7 := by unfold kindE; simp [k, hdat, r1, r2, r3, r4]
       rw [hr]; clear hr
       go_enter Tryz.func70, Tryz.ntmps70
       go_wp2
       go_ret
       exact ⟨rfl, eA _ _⟩
      case neg =>
       have hr : kindE x = 0 := by unfold kindE; simp [k, hdat, r1, r2, r3, r4]
       rw [hr]; clear hr
       go_enter Tryz.func70, Tryz.ntmps70
       go_wp2
       go_ret
       exact ⟨rfl, eA _ _⟩
  case neg =>
   have dat1 : x.dat.toList.isEmpty = false := by simpa using hdat
   have hr : kindE x = 6 := by unfold kindE; simp [k, hdat]
   rw [hr]; clear hr
   go_enter Tryz.func70, Tryz.ntmps70
   go_wp2
   go_ret
   exact ⟨rfl, eA _ _⟩
 case neg =>
 have n4 := k
 clear k
 have k : x.kd = 5 := by omega
 clear k0 k6 n1 n2 n3 n4
 by_cases hdat : x.dat.toList = []
 case pos =>
  have dat1 : x.dat.toList.isEmpty = true := by rw [hdat]; rfl
  have dat2 : x.dat.size = 0 := empty_size hdat
  by_cases hma : x.ma = 0
  case pos =>
   by_cases hmi : x.mi = 0
   case pos =>
    by_cases hats : x.ats.length = 0
    case pos =>
     by_cases hcl : x.cl = 0
     case pos =>
      have hr : kindE x = 0 := by unfold kindE; simp [k, hdat, hma, hmi, hats, hcl]
      rw [hr]; clear hr
      go_enter Tryz.func70, Tryz.ntmps70
      go_wp2
      go_ret
      exact ⟨rfl, eA _ _⟩
     case neg =>
      have cl1 : (x.cl == 0) = false := nB hcl
      have cl2 : (x.cl != 0) = true := bne_iff_ne.2 hcl
      have hr : kindE x = 6 := by unfold kindE; simp [k, hdat, hma, hmi, hats, hcl]
      rw [hr]; clear hr
      go_enter Tryz.func70, Tryz.ntmps70
      go_wp2
      go_ret
      exact ⟨rfl, eA _ _⟩
    case neg =>
     have ats1 : 0 < x.ats.length := by omega
     have hr : kindE x = 6 := by unfold kindE; simp [k, hdat, hma, hmi, hats]
     rw [hr]; clear hr
     go_enter Tryz.func70, Tryz.ntmps70
     go_wp2
     go_ret
     exact ⟨rfl, eA _ _⟩
   case neg =>
    have mi1 : (x.mi == 0) = false := nB hmi
    have mi2 : (x.mi != 0) = true := bne_iff_ne.2 hmi
    have hr : kindE x = 6 := by unfold kindE; simp [k, hdat, hma, hmi]
    rw [hr]; clear hr
    go_enter Tryz.func70, Tryz.ntmps70
    go_wp2
    go_ret
    exact ⟨rfl, eA _ _⟩
  case neg =>
   have ma1 : (x.ma == 0) = false := nB hma
   have ma2 : (x.ma != 0) = true := bne_iff_ne.2 hma
   have hr : kindE x = 6 := by unfold kindE; simp [k, hdat, hma]
   rw [hr]; clear hr
   go_enter Tryz.func70, Tryz.ntmps70
   go_wp2
   go_ret
   exact ⟨rfl, eA _ _⟩
 case neg =>
  have dat1 : x.dat.toList.isEmpty = false := by simpa using hdat
  have hr : kindE x = 6 := by unfold kindE; simp [k, hdat]
  rw [hr]; clear hr
  go_enter Tryz.func70, Tryz.ntmps70
  go_wp2
  go_ret
  exact ⟨rfl, eA _ _⟩
set_option maxRecDepth 100000 in
set_option maxHeartbeats 1000000 in
theorem treeFields (x : TrN) (va : Value) (w : World) (hv : ∃ a cap, va = .slice a x.ats.length cap) : RetB Tryz.prog 179 #[trV x va] w (.int .i64 (kindE x)) := by
 unfold RetB trV
 obtain ⟨aa, cap, rfl⟩ := hv
 by_cases k0 : x.kd < 1
 case pos =>
  have n1 : (x.kd == 1) = false := nB (by omega)
  have n2 : (x.kd == 2) = false := nB (by omega)
  have n3 : (x.kd == 3) = false := nB (by omega)
  have n4 : (x.kd == 4) = false := nB (by omega)
  have n5 : (x.kd == 5) = false := nB (by omega)
  by_cases hma : x.ma = 0
  case pos =>
   by_cases hmi : x.mi = 0
   case pos =>
    have hr : kindE x = 14 := by unfold kindE; simp [k0]
    rw [hr]; clear hr
    go_enter Tryz.func179, Tryz.ntmps179
    go_wp2
    go_ret
    exact ⟨rfl, eA _ _⟩
   case neg =>
    have mi1 : (x.mi == 0) = false := nB hmi
    have mi2 : (x.mi != 0) = true := bne_iff_ne.2 hmi
    have hr : kindE x = 14 := by unfold kindE; simp [k0]
    rw [hr]; clear hr
    go_enter Tryz.func179, Tryz.ntmps179
    go_wp2
    go_ret
    exact ⟨rfl, eA _ _⟩
  case neg =>
   have ma1 : (x.ma == 0) = false := nB hma
   have ma2 : (x.ma != 0) = true := bne_iff_ne.2 hma
   have hr : kindE x = 14 := by unfold kindE; simp [k0]
   rw [hr]; clear hr
   go_enter Tryz.func179, Tryz.ntmps179
   go_wp2
   go_ret
   exact ⟨rfl, eA _ _⟩
 by_cases k6 : 5 < x.kd
 case pos =>
  have n1 : (x.kd == 1) = false := nB (by omega)
  have n2 : (x.kd == 2) = false := nB (by omega)
  have n3 : (x.kd == 3) = false := nB (by omega)
  have n4 : (x.kd == 4) = false := nB (by omega)
  have n5 : (x.kd == 5) = false := nB (by omega)
  by_cases hma : x.ma = 0
  case pos =>
   by_cases hmi : x.mi = 0
   case pos =>
    have hr : kindE x = 14 := by unfold kindE; simp [k6]
    rw [hr]; clear hr
    go_enter Tryz.func179, Tryz.ntmps179
    go_wp2
    go_ret
    exact ⟨rfl, eA _ _⟩
   case neg =>
    have mi1 : (x.mi == 0) = false := nB hmi
    have mi2 : (x.mi != 0) = true := bne_iff_ne.2 hmi
    have hr : kindE x = 14 := by unfold kindE; simp [k6]
    rw [hr]; clear hr
    go_enter Tryz.func179, Tryz.ntmps179
    go_wp2
    go_ret
    exact ⟨rfl, eA _ _⟩
  case neg =>
   have ma1 : (x.ma == 0) = false := nB hma
   have ma2 : (x.ma != 0) = true := bne_iff_ne.2 hma
   have hr : kindE x = 14 := by unfold kindE; simp [k6]
   rw [hr]; clear hr
   go_enter Tryz.func179, Tryz.ntmps179
   go_wp2
   go_ret
   exact ⟨rfl, eA _ _⟩
 by_cases k : x.kd = 1
 case pos =>
  clear k0 k6
  by_cases hma : x.ma = 0
  case pos =>
   by_cases hmi : x.mi = 0
   case pos =>
    by_cases hdat : x.dat.toList = []
    case pos =>
     have dat1 : x.dat.toList.isEmpty = true := by rw [hdat]; rfl
     have dat2 : x.dat.size = 0 := empty_size hdat
     by_cases hcl : x.cl = 0
     case pos =>
      have hr : kindE x = 0 := by unfold kindE; simp [k, hma, hmi, hdat, hcl]
      rw [hr]; clear hr
      go_enter Tryz.func179, Tryz.ntmps179
      go_wp2
      go_ret
      exact ⟨rfl, eA _ _⟩
     case neg =>
      have cl1 : (x.cl == 0) = false := nB hcl
      have cl2 : (x.cl != 0) = true := bne_iff_ne.2 hcl
      have hr : kindE x = 6 := by unfold kindE; simp [k, hma, hmi, hdat, hcl]
      rw [hr]; clear hr
      go_enter Tryz.func179, Tryz.ntmps179
      go_wp2
      go_ret
      exact ⟨rfl, eA _ _⟩
    case neg =>
     have dat1 : x.dat.toList.isEmpty = false := by simpa using hdat
     have hr : kindE x = 6 := by unfold kindE; simp [k, hma, hmi, hdat]
     rw [hr]; clear hr
     go_enter Tryz.func179, Tryz.ntmps179
     go_wp2
     go_ret
     exact ⟨rfl, eA _ _⟩
   case neg =>
    have mi1 : (x.mi == 0) = false := nB hmi
    have mi2 : (x.mi != 0) = true := bne_iff_ne.2 hmi
    by_cases hdat : x.dat.toList = []
    case pos =>
     have dat1 : x.dat.toList.isEmpty = true := by rw [hdat]; rfl
     have dat2 : x.dat.size = 0 := empty_size hdat
     have hr : kindE x = 6 := by unfold kindE; simp [k, hma, hmi, hdat]
     rw [hr]; clear hr
     go_enter Tryz.func179, Tryz.ntmps179
     go_wp2
     go_ret
     exact ⟨rfl, eA _ _⟩
    case neg =>
     have dat1 : x.dat.toList.isEmpty = false := by simpa using hdat
     have hr : kindE x = 6 := by unfold kindE; simp [k, hma, hmi, hdat]
     rw [hr]; clear hr
     go_enter Tryz.func179, Tryz.ntmps179
     go_wp2
     go_ret
     exact ⟨rfl, eA _ _⟩
  case neg =>
   have ma1 : (x.ma == 0) = false := nB hma
   have ma2 : (x.ma != 0) = true := bne_iff_ne.2 hma
   by_cases hdat : x.dat.toList = []
   case pos =>
    have dat1 : x.dat.toList.isEmpty = true := by rw [hdat]; rfl
    have dat2 : x.dat.size = 0 := empty_size hdat
    have hr : kindE x = 6 := by unfold kindE; simp [k, hma, hdat]
    rw [hr]; clear hr
    go_enter Tryz.func179, Tryz.ntmps179
    go_wp2
    go_ret
    exact ⟨rfl, eA _ _⟩
   case neg =>
    have dat1 : x.dat.toList.isEmpty = false := by simpa using hdat
    have hr : kindE x = 6 := by unfold kindE; simp [k, hma, hdat]
    rw [hr]; clear hr
    go_enter Tryz.func179, Tryz.ntmps179
    go_wp2
    go_ret
    exact ⟨rfl, eA _ _⟩
 case neg =>
 have n1 := k
 clear k
 by_cases k : x.kd = 2
 case pos =>
  clear k0 k6
  by_cases hma : x.ma = 0
  case pos =>
   by_cases hmi : x.mi = 0
   case pos =>
    by_cases z : 384 < x.dat.size
    case pos =>
     have hr : kindE x = 3 := by unfold kindE; simp [k, hma, hmi, z]
     rw [hr]; clear hr
     go_enter Tryz.func179, Tryz.ntmps179
     go_wp2
     go_ret
     exact ⟨rfl, eA _ _⟩
    case neg =>
     have hr : kindE x = 0 := by unfold kindE; simp [k, hma, hmi, z]
     rw [hr]; clear hr
     go_enter Tryz.func179, Tryz.ntmps179
     go_wp2
     go_ret
     exact ⟨rfl, eA _ _⟩
   case neg =>
    have mi1 : (x.mi == 0) = false := nB hmi
    have mi2 : (x.mi != 0) = true := bne_iff_ne.2 hmi
    have hr : kindE x = 6 := by unfold kindE; simp [k, hma, hmi]
    rw [hr]; clear hr
    go_enter Tryz.func179, Tryz.ntmps179
    go_wp2
    go_ret
    exact ⟨rfl, eA _ _⟩
  case neg =>
   have ma1 : (x.ma == 0) = false := nB hma
   have ma2 : (x.ma != 0) = true := bne_iff_ne.2 hma
   have hr : kindE x = 6 := by unfold kindE; simp [k, hma]
   rw [hr]; clear hr
   go_enter Tryz.func179, Tryz.ntmps179
   go_wp2
   go_ret
   exact ⟨rfl, eA _ _⟩
 case neg =>
 have n2 := k
 clear k
 by_cases k : x.kd = 3
 case pos =>
  clear k0 k6
  by_cases hma : x.ma = 0
  case pos =>
   by_cases hmi : x.mi = 0
   case pos =>
    by_cases hdat : x.dat.toList = []
    case pos =>
     have dat1 : x.dat.toList.isEmpty = true := by rw [hdat]; rfl
     have dat2 : x.dat.size = 0 := empty_size hdat
     have hr : kindE x = 6 := by unfold kindE; simp [k, hma, hmi, hdat]
     rw [hr]; clear hr
     go_enter Tryz.func179, Tryz.ntmps179
     go_wp2
     go_ret
     exact ⟨rfl, eA _ _⟩
    case neg =>
     have dat1 : x.dat.toList.isEmpty = false := by simpa using hdat
     by_cases z : 200 < x.dat.size
     case pos =>
      have hr : kindE x = 3 := by unfold kindE; simp [k, hma, hmi, hdat, z]
      rw [hr]; clear hr
      go_enter Tryz.func179, Tryz.ntmps179
      go_wp2
      go_ret
      exact ⟨rfl, eA _ _⟩
     case neg =>
      have hr : kindE x = 0 := by unfold kindE; simp [k, hma, hmi, hdat, z]
      rw [hr]; clear hr
      go_enter Tryz.func179, Tryz.ntmps179
      go_wp2
      go_ret
      exact ⟨rfl, eA _ _⟩
   case neg =>
    have mi1 : (x.mi == 0) = false := nB hmi
    have mi2 : (x.mi != 0) = true := bne_iff_ne.2 hmi
    have hr : kindE x = 6 := by unfold kindE; simp [k, hma, hmi]
    rw [hr]; clear hr
    go_enter Tryz.func179, Tryz.ntmps179
    go_wp2
    go_ret
    exact ⟨rfl, eA _ _⟩
  case neg =>
   have ma1 : (x.ma == 0) = false := nB hma
   have ma2 : (x.ma != 0) = true := bne_iff_ne.2 hma
   have hr : kindE x = 6 := by unfold kindE; simp [k, hma]
   rw [hr]; clear hr
   go_enter Tryz.func179, Tryz.ntmps179
   go_wp2
   go_ret
   exact ⟨rfl, eA _ _⟩
 case neg =>
 have n3 := k
 clear k
 by_cases k : x.kd = 4
 case pos =>
  clear k0 k6
  by_cases hdat : x.dat.toList = []
  case pos =>
   have dat1 : x.dat.toList.isEmpty = true := by rw [hdat]; rfl
   have dat2 : x.dat.size = 0 := empty_size hdat
   by_cases hma : x.ma = 0
   case pos =>
    by_cases hmi : x.mi = 0
    case pos =>
     have hr : kindE x = 0 := by unfold kindE; simp [k, hdat, hma, hmi]
     rw [hr]; clear hr
     go_enter Tryz.func179, Tryz.ntmps179
     go_wp2
     go_ret
     exact ⟨rfl, eA _ _⟩
    case neg =>
     have mi1 : (x.mi == 0) = false := nB hmi
     have mi2 : (x.mi != 0) = true := bne_iff_ne.2 hmi
     by_cases r3 : x.mi < 0
     case pos =>
      have hr : kindE x = 7 := by unfold kindE; simp [k, hdat, hma, r3]
      rw [hr]; clear hr
      go_enter Tryz.func179, Tryz.ntmps179
      go_wp2
      go_ret
      exact ⟨rfl, eA _ _⟩
     case neg =>
      by_cases r4 : 255 < x.mi
      case pos =>
       have hr : kindE x = 7 := by unfold kindE; simp [k, hdat, hma, r3, r4]
       rw [hr]; clear hr
       go_enter Tryz.func179, Tryz.ntmps179
       go_wp2
       go_ret
       exact ⟨rfl, eA _ _⟩
      case neg =>
       have hr : kindE x = 0 := by unfold kindE; simp [k, hdat, hma, r3, r4]
       rw [hr]; clear hr
       go_enter Tryz.func179, Tryz.ntmps179
       go_wp2
       go_ret
       exact ⟨rfl, eA _ _⟩
   case neg =>
    have ma1 : (x.ma == 0) = false := nB hma
    have ma2 : (x.ma != 0) = true := bne_iff_ne.2 hma
    by_cases r1 : x.ma < 0
    case pos =>
     have hr : kindE x = 7 := by unfold kindE; simp [k, hdat, r1]
     rw [hr]; clear hr
     go_enter Tryz.func179, Tryz.ntmps179
     go_wp2
     go_ret
     exact ⟨rfl, eA _ _⟩
    case neg =>
     by_cases r2 : 255 < x.ma
     case pos =>
      have hr : kindE x = 7 := by unfold kindE; simp [k, hdat, r1, r2]
      rw [hr]; clear hr
      go_enter Tryz.func179, Tryz.ntmps179
      go_wp2
      go_ret
      exact ⟨rfl, eA _ _⟩
     case neg =>
      by_cases r3 : x.mi < 0
      case pos =>
       have hr : kindE x = 7 := by unfold kindE; simp [k, hdat, r1, r2, r3]
       rw [hr]; clear hr
       go_enter Tryz.func179, Tryz.ntmps179
       go_wp2
       go_ret
       exact ⟨rfl, eA _ _⟩
      case neg =>
       by_cases r4 : 255 < x.mi
       case pos =>
        have hr : kindE x = 7 := by unfold kindE; simp [k, hdat, r1, r2, r3, r4]
        rw [hr]; clear hr
        go_enter Tryz.func179, Tryz.ntmps179
        go_wp2
        go_ret
        exact ⟨rfl, eA _ _⟩
       case neg =>
        have hr : kindE x = 0 := by unfold kindE; simp [k, hdat, r1, r2, r3, r4]
        rw [hr]; clear hr
        go_enter Tryz.func179, Tryz.ntmps179
        go_wp2
        go_ret
        exact ⟨rfl, eA _ _⟩
  case neg =>
   have dat1 : x.dat.toList.isEmpty = false := by simpa using hdat
   by_cases hma : x.ma = 0
   case pos =>
    by_cases hmi : x.mi = 0
    case pos =>
     have hr : kindE x = 6 := by unfold kindE; simp [k, hdat]
     rw [hr]; clear hr
     go_enter Tryz.func179, Tryz.ntmps179
     go_wp2
     go_ret
     exact ⟨rfl, eA _ _⟩
    case neg =>
     have mi1 : (x.mi == 0) = false := nB hmi
     have mi2 : (x.mi != 0) = true := bne_iff_ne.2 hmi
     have hr : kindE x = 6 := by unfold kindE; simp [k, hdat]
     rw [hr]; clear hr
     go_enter Tryz.func179, Tryz.ntmps179
     go_wp2
     go_ret
     exact ⟨rfl, eA _ _⟩
   case neg =>
    have ma1 : (x.ma == 0) = false := nB hma
    have ma2 : (x.ma != 0) = true := bne_iff_ne.2 hma
    have hr : kindE x = 6 := by unfold kindE; simp [k, hdat]
    rw [hr]; clear hr
    go_enter Tryz.func179, Tryz.ntmps179
    go_wp2
    go_ret
    exact ⟨rfl, eA _ _⟩
 case neg =>
 have n4 := k
 clear k
 have k : x.kd = 5 := by omega
 clear k0 k6 n1 n2 n3 n4
 by_cases hma : x.ma = 0
 case pos =>
  by_cases hmi : x.mi = 0
  case pos =>
   by_cases hdat : x.dat.toList = []
   case pos =>
    have dat1 : x.dat.toList.isEmpty = true := by rw [hdat]; rfl
    have dat2 : x.dat.size = 0 := empty_size hdat
    by_cases hcl : x.cl = 0
    case pos =>
     by_cases hats : x.ats.length = 0
     case pos =>
      have hr : kindE x = 0 := by unfold kindE; simp [k, hma, hmi, hdat, hcl, hats]
      rw [hr]; clear hr
      go_enter Tryz.func179, Tryz.ntmps179
      go_wp2
      go_ret
      exact ⟨rfl, eA _ _⟩
     case neg =>
      have ats1 : 0 < x.ats.length := by omega
      have hr : kindE x = 6 := by unfold kindE; simp [k, hma, hmi, hdat, hcl, hats]
      rw [hr]; clear hr
      go_enter Tryz.func179, Tryz.ntmps179
      go_wp2
      go_ret
      exact ⟨rfl, eA _ _⟩
    case neg =>
     have cl1 : (x.cl == 0) = false := nB hcl
     have cl2 : (x.cl != 0) = true := bne_iff_ne.2 hcl
     have hr : kindE x = 6 := by unfold kindE; simp [k, hma, hmi, hdat, hcl]
     rw [hr]; clear hr
     go_enter Tryz.func179, Tryz.ntmps179
     go_wp2
     go_ret
     exact ⟨rfl, eA _ _⟩
   case neg =>
    have dat1 : x.dat.toList.isEmpty = false := by simpa using hdat
    have hr : kindE x = 6 := by unfold kindE; simp [k, hma, hmi, hdat]
    rw [hr]; clear hr
    go_enter Tryz.func179, Tryz.ntmps179
    go_wp2
    go_ret
    exact ⟨rfl, eA _ _⟩
  case neg =>
   have mi1 : (x.mi == 0) = false := nB hmi
   have mi2 : (x.mi != 0) = true := bne_iff_ne.2 hmi
   by_cases hdat : x.dat.toList = []
   case pos =>
    have dat1 : x.dat.toList.isEmpty = true := by rw [hdat]; rfl
    have dat2 : x.dat.size = 0 := empty_size hdat
    have hr : kindE x = 6 := by unfold kindE; simp [k, hma, hmi, hdat]
    rw [hr]; clear hr
    go_enter Tryz.func179, Tryz.ntmps179
    go_wp2
    go_ret
    exact ⟨rfl, eA _ _⟩
   case neg =>
    have dat1 : x.dat.toList.isEmpty = false := by simpa using hdat
    have hr : kindE x = 6 := by unfold kindE; simp [k, hma, hmi, hdat]
    rw [hr]; clear hr
    go_enter Tryz.func179, Tryz.ntmps179
    go_wp2
    go_ret
    exact ⟨rfl, eA _ _⟩
 case neg =>
  have ma1 : (x.ma == 0) = false := nB hma
  have ma2 : (x.ma != 0) = true := bne_iff_ne.2 hma
  by_cases hdat : x.dat.toList = []
  case pos =>
   have dat1 : x.dat.toList.isEmpty = true := by rw [hdat]; rfl
   have dat2 : x.dat.size = 0 := empty_size hdat
   have hr : kindE x = 6 := by unfold kindE; simp [k, hma, hdat]
   rw [hr]; clear hr
   go_enter Tryz.func179, Tryz.ntmps179
   go_wp2
   go_ret
   exact ⟨rfl, eA _ _⟩
  case neg =>
   have dat1 : x.dat.toList.isEmpty = false := by simpa using hdat
   have hr : kindE x = 6 := by unfold kindE; simp [k, hma, hdat]
   rw [hr]; clear hr
   go_enter Tryz.func179, Tryz.ntmps179
   go_wp2
   go_ret
   exact ⟨rfl, eA _ _⟩
set_option maxRecDepth 100000 in
theorem refShape0 (B : Nat) (v : Value) (t : List TrN) (w : World) (hv : TrIn B w v t) (h0 : 0 < t.length) : RetB Tryz.prog 68 #[v, .int .i64 0] w (.int .i64 (shapeE t 0)) := by
 unfold RetB
 obtain ⟨aa, cap, rfl⟩ := hv.form
 obtain ⟨b, off, va, rfl, hb, hva, c0, c1, c2, c3, c4, c5, c6, c7⟩ := hv.tr 0 h0
 obtain ⟨a3, cap3, rfl⟩ := hva.form
 clear hva
 clear hv
 have hs : shapeE t 0 = if (t[0]'h0).dep = 0 /\ (t[0]'h0).nm.toList = [] /\ (t[0]'h0).kd = 1 then 0 else 6 := by unfold shapeE; rw [if_pos rfl, getT_at t 0 h0]
 rw [hs]; clear hs
 generalize t[0]'h0 = x at c0 c1 c2 c3 c4 c5 c6 c7
 simp only [Nat.zero_mul, Nat.add_zero] at c0 c1 c2 c3 c4 c5 c6 c7
 by_cases e1 : x.dep = 0
 case neg =>
  have d1 : (x.dep != 0) = true := bne_iff_ne.2 e1
  rw [if_neg (fun h => e1 h.1)]; clear e1
  go_enter Tryz.func68, Tryz.ntmps68
  go_wp2
  go_ret
  exact ⟨rfl, eA _ _⟩
 by_cases e2 : x.nm.toList = []
 case neg =>
  have d2 : x.nm.toList.isEmpty = false := by simpa using e2
  rw [if_neg (fun h => e2 h.2.1)]; clear e2
  go_enter Tryz.func68, Tryz.ntmps68
  go_wp2
  go_ret
  exact ⟨rfl, eA _ _⟩
 have d2 : x.nm.toList.isEmpty = true := by rw [e2]; rfl
 by_cases e3 : x.kd = 1
 ·rw [if_pos ⟨e1, e2, e3⟩]; clear e2
  go_enter Tryz.func68, Tryz.ntmps68
  go_wp2
  go_ret
  exact ⟨rfl, eA _ _⟩
 ·have d3 : (x.kd != 1) = true := bne_iff_ne.2 e3
  rw [if_neg (fun h => e3 h.2.2)]; clear e3 e2
  go_enter Tryz.func68, Tryz.ntmps68
  go_wp2
  go_ret
  exact ⟨rfl, eA _ _⟩
set_option maxRecDepth 100000 in
set_option maxHeartbeats 1000000 in
theorem refShape1 (B : Nat) (v : Value) (t : List TrN) (j : Nat) (w : World) (hv : TrIn B w v t) (h0 : j + 1 < t.length) (hm : t.length <= 1000) (hp : (getT t j).dep <= 1000) (hq : 0 <= (getT t j).dep) : RetB Tryz.prog 68 #[v, .int .i64 ((j : Int) + 1)] w (.int .i64 (shapeE t (j + 1))) := by
 unfold RetB
 obtain ⟨aa, cap, rfl⟩ := hv.form
 obtain ⟨b, off, va, rfl, hb, hva, c0, c1, c2, c3, c4, c5, c6, c7⟩ := hv.tr (j + 1) h0
 obtain ⟨a3, cap3, rfl⟩ := hva.form
 clear hva
 obtain ⟨b', off', vb, he, hb', _, d0, _, d2, _⟩ := hv.tr j (by omega)
 cases he
 clear hv
 have hs : shapeE t (j + 1) = if (t[j + 1]'h0).dep < 1 \/ mostD (t[j]'(by omega)) < (t[j + 1]'h0).dep then 6 else if 8 < (t[j + 1]'h0).dep then 3 else 0 := by
  unfold shapeE; rw [if_neg (by omega), getT_at t (j + 1) h0, Nat.add_sub_cancel, getT_at t j (by omega)]
 rw [getT_at t j (by omega)] at hp hq
 rw [hs]; clear hs
 generalize t[j + 1]'h0 = x at c0 c1 c2 c3 c4 c5 c6 c7
 generalize t[j]'(by omega) = y at d0 d2 hp hq
 unfold mostD
 have j1 : ((j : Nat) : Int) < (t.length : Int) := by omega
 have j2 : ((j : Nat) : Int) + 1 < (t.length : Int) := by omega
 by_cases e1 : x.dep < 1
 ·rw [if_pos (.inl e1)]
  by_cases e2 : y.kd = 1
  ·go_enter Tryz.func68, Tryz.ntmps68
   go_wp2
   go_ret
   exact ⟨rfl, eA _ _⟩
  ·have e3 : (y.kd == 1) = false := nB e2
   go_enter Tryz.func68, Tryz.ntmps68
   go_wp2
   go_ret
   exact ⟨rfl, eA _ _⟩
 by_cases e2 : y.kd = 1
 ·rw [if_pos e2]
  by_cases e3 : y.dep + 1 < x.dep
  ·rw [if_pos (.inr e3)]
   go_enter Tryz.func68, Tryz.ntmps68
   go_wp2
   go_ret
   exact ⟨rfl, eA _ _⟩
  rw [if_neg (by simp [e1, e3])]
  by_cases e4 : 8 < x.dep
  ·rw [if_pos e4]
   go_enter Tryz.func68, Tryz.ntmps68
   go_wp2
   go_ret
   exact ⟨rfl, eA _ _⟩
  ·rw [if_neg e4]
   go_enter Tryz.func68, Tryz.ntmps68
   go_wp2
   go_ret
   exact ⟨rfl, eA _ _⟩
 ·have f1 : (y.kd == 1) = false := nB e2
  rw [if_neg e2]
  by_cases e3 : y.dep < x.dep
  ·rw [if_pos (.inr e3)]
   go_enter Tryz.func68, Tryz.ntmps68
   go_wp2
   go_ret
   exact ⟨rfl, eA _ _⟩
  rw [if_neg (by simp [e1, e3])]
  by_cases e4 : 8 < x.dep
  ·rw [if_pos e4]
   go_enter Tryz.func68, Tryz.ntmps68
   go_wp2
   go_ret
   exact ⟨rfl, eA _ _⟩
  ·rw [if_neg e4]
   go_enter Tryz.func68, Tryz.ntmps68
   go_wp2
   go_ret
   exact ⟨rfl, eA _ _⟩
theorem refShape (B : Nat) (v : Value) (t : List TrN) (i : Nat) (w : World) (hv : TrIn B w v t) (hi : i < t.length) (hm : t.length <= 1000) (hp : i ≠ 0 -> 0 <= (getT t (i - 1)).dep /\ (getT t (i - 1)).dep <= 1000) : RetB Tryz.prog 68 #[v, .int .i64 i] w (.int .i64 (shapeE t i)) := by
 cases i with
 | zero => exact refShape0 B v t w hv hi
 | succ j => exact refShape1 B v t j w hv hi hm (hp (by omega)).2 (hp (by omega)).1
set_option maxRecDepth 100000 in
set_option maxHeartbeats 4000000 in
theorem refEntry (B : Nat) (v : Value) (t : List TrN) (i : Nat) (w : World) (hv : TrIn B w v t) (hi : i < t.length) (hm : t.length <= 1000) (hs : (getT t i).nm.size <= 1000000) : RetB Tryz.prog 69 #[v, .int .i64 i] w (.int .i64 (entryE t i)) := by
 unfold RetB
 obtain ⟨aa, cap, rfl⟩ := hv.form
 obtain ⟨b, off, va, rfl, hb, _, c0, c1, _⟩ := hv.tr i hi
 have HV := hQq hv; clear hv
 have hg := getT_at t i hi
 have HE : Hid (entryE t i = if nameE (L (t[i]'hi).nm) ≠ 0 then nameE (L (t[i]'hi).nm) else nextE (scan (revT t i) (t[i]'hi).dep).1 (scan (revT t i) (t[i]'hi).dep).2 (t[i]'hi).nm) := by
  unfold entryE; rw [hg]; exact rfl
 rw [hg] at hs
 clear hg
 generalize t[i]'hi = x at c0 c1 HE hs
 have ji : ((i : Nat) : Int) < (t.length : Int) := by omega
 by_cases hn : nameE (L x.nm) = 0
 case neg =>
  have hn1 : (nameE (L x.nm) != 0) = true := bne_iff_ne.2 hn
  rw [HE.out, if_pos hn]; clear hn HE
  go_enter Tryz.func69, Tryz.ntmps69
  go_wp2_with (go_at_call 132; refine (refName _ _ hs).mono ?_; rintro e w' ⟨rfl, rfl⟩)
  go_ret
  exact ⟨rfl, bR _ _⟩
 have HE2 : Hid (entryE t i = nextE (scan (revT t i) x.dep).1 (scan (revT t i) x.dep).2 x.nm) := by rw [HE.out, if_neg (by simpa using hn)]; exact rfl
 rw [HE2.out]; clear HE HE2
 go_enter Tryz.func69, Tryz.ntmps69
 go_wp2_with (go_at_call 132; refine (refName _ _ hs).mono ?_; rintro e w' ⟨rfl, rfl⟩)
 clear hn
 go_loopw [6, 7, 8] (fun m la kk w' => ∃ (wi : World) (j n : Nat) (z : Int), wi = w' /\ j <= i /\ n + j <= i /\ m = .int .i64 n /\ la = .int .i64 z /\ kk = .int .i64 ((j : Int) - 1) /\ ScanSt t i x.dep j n z /\ Ext w w') (fun _ _ kk _ => (intOf kk + 1).toNat)
 case atStart => exact ⟨_, i, 0, -1, rfl, Nat.le_refl _, by omega, rfl, rfl, rfl, ScanSt.start t i x.dep, bR _ _⟩
 case round =>
  obtain ⟨wi, j, n, z, rfl, hj, hnj, rfl, rfl, rfl, hst, hbw⟩ := hrel
  have HS := hQq hst; clear hst
  replace c0 := (eC hbw hb).trans c0
  replace c1 := (eC hbw hb).trans c1
  have HB := hQq hbw; clear hbw
  have hgo : (∃ p, j = p + 1 /\ ∃ h : p < t.length, x.dep <= (t[p]'h).dep) \/ ScanSt t i x.dep 0 n z /\ (j = 0 \/ ∃ p, j = p + 1 /\ ∃ h : p < t.length, (t[p]'h).dep < x.dep) := by
   cases j with
   | zero => exact .inr ⟨HS.out, .inl rfl⟩
   | succ p =>
    have hp : p < t.length := by omega
    by_cases hd : x.dep <= (t[p]'hp).dep
    ·exact .inl ⟨p, rfl, hp, hd⟩
    ·exact .inr ⟨HS.out.low hp (by omega), .inr ⟨p, rfl, hp, by omega⟩⟩
  rcases hgo with ⟨p, rfl, hp, hd⟩ | ⟨hend, hwhy⟩
  ·obtain ⟨b', off', vb, he, hb', _, d0, _⟩ := HV.out.tr p hp
   cases he
   replace d0 := (eC HB.out hb').trans d0
   have jp : ((p : Nat) : Int) < (t.length : Int) := by omega
   have jc : ((p + 1 : Nat) : Int) - 1 = (p : Int) := by omega
   rw [jc]
   clear jc
   by_cases heq : (t[p]'hp).dep = x.dep
   ·have HN := hQq (HS.out.hit (by omega) hp heq)
    generalize t[p]'hp = y at d0 hd heq
    have q1 : (y.dep == x.dep) = true := beq_iff_eq.2 heq
    clear heq
    by_cases hz : z < 0
    ·rw [if_pos hz] at HN
     go_wp2
     go_quiet (fail)
     go_wp2
     go_quiet (fail)
     go_wp2
     go_roundw
     case rel => exact ⟨_, p, n + 1, p, rfl, by omega, by omega, by go_num, rfl, rfl, HN.out, Ext.trans HB.out (by first | exact eDn _ _ | exact Ext.trans (eDn _ _) (eDn _ _))⟩
     case measure => first | (simp [intOf]; done) | (simp [intOf]; omega)
    ·rw [if_neg hz] at HN
     go_wp2
     go_quiet (fail)
     go_wp2
     go_quiet (fail)
     go_wp2
     go_roundw
     case rel => exact ⟨_, p, n + 1, z, rfl, by omega, by omega, by go_num, rfl, rfl, HN.out, Ext.trans HB.out (by first | exact eDn _ _ | exact Ext.trans (eDn _ _) (eDn _ _))⟩
     case measure => first | (simp [intOf]; done) | (simp [intOf]; omega)
   ·have HN := hQq (HS.out.skip hp (by omega))
    generalize t[p]'hp = y at d0 hd heq
    have q1 : (y.dep == x.dep) = false := nB heq
    clear heq
    go_wp2
    go_quiet (fail)
    go_wp2
    go_quiet (fail)
    go_wp2
    go_roundw
    case rel => exact ⟨_, p, n, z, rfl, by omega, by omega, rfl, rfl, rfl, HN.out, Ext.trans HB.out (by first | exact eDn _ _ | exact Ext.trans (eDn _ _) (eDn _ _))⟩
    case measure => first | (simp [intOf]; done) | (simp [intOf]; omega)
  ·obtain ⟨s1, s2⟩ := hend.end
   clear hend HS
   rcases s2 with ⟨rfl, rfl, s2⟩ | ⟨q, rfl, hq, s2⟩
   ·have HR : Hid (nextE (scan (revT t i) x.dep).1 (scan (revT t i) x.dep).2 x.nm = 0) := hQq (by rw [s1, s2]; simp [nextE])
    clear s1 s2
    rcases hwhy with rfl | ⟨p, rfl, hp, hd⟩
    ·have jc : ((0 : Nat) : Int) - 1 = -1 := rfl
     rw [jc]; clear jc
     go_wp2
     go_quiet (fail)
     go_wp2
     go_quiet (fail)
     go_wp2
     go_quiet (fail)
     go_wp2
     go_ret
     exact ⟨by rw [HR.out]; rfl, Ext.trans HB.out (by first | exact eDn _ _ | exact Ext.trans (eDn _ _) (eDn _ _) | exact Ext.trans (eDn _ _) (Ext.trans (eDn _ _) (eDn _ _)))⟩
    ·obtain ⟨b', off', vb, he, hb', _, d0, _⟩ := HV.out.tr p hp
     cases he
     replace d0 := (eC HB.out hb').trans d0
     have jp : ((p : Nat) : Int) < (t.length : Int) := by omega
     have jc : ((p + 1 : Nat) : Int) - 1 = (p : Int) := by omega
     rw [jc]; clear jc
     generalize t[p]'hp = y' at d0 hd
     go_wp2
     go_quiet (fail)
     go_wp2
     go_quiet (fail)
     go_wp2
     go_quiet (fail)
     go_wp2
     go_ret
     exact ⟨by rw [HR.out]; rfl, Ext.trans HB.out (by first | exact eDn _ _ | exact Ext.trans (eDn _ _) (eDn _ _) | exact Ext.trans (eDn _ _) (Ext.trans (eDn _ _) (eDn _ _)))⟩
   ·have hqt : q < t.length := by omega
    rw [getT_at t q hqt] at s2
    obtain ⟨b2, off2, vb2, he2, hb2, _, _, e1, _⟩ := HV.out.tr q hqt
    cases he2
    replace e1 := (eC HB.out hb2).trans e1
    have jq : ((q : Nat) : Int) < (t.length : Int) := by omega
    generalize t[q]'hqt = y at e1 s2
    by_cases k1 : y.nm = x.nm
    ·have HR : Hid (nextE (scan (revT t i) x.dep).1 (scan (revT t i) x.dep).2 x.nm = 8) := hQq (by rw [s1, s2]; simp [nextE, k1])
     have g1 : (y.nm.toList == x.nm.toList) = true := by rw [k1]; simp
     clear s1 s2 k1
     rcases hwhy with rfl | ⟨p, rfl, hp, hd⟩
     ·have jc : ((0 : Nat) : Int) - 1 = -1 := rfl
      rw [jc]; clear jc
      go_wp2
      go_quiet (fail)
      go_wp2
      go_quiet (fail)
      go_wp2
      go_ret
      exact ⟨by rw [HR.out]; rfl, Ext.trans HB.out (by first | exact eDn _ _ | exact Ext.trans (eDn _ _) (eDn _ _) | exact Ext.trans (eDn _ _) (Ext.trans (eDn _ _) (eDn _ _)))⟩
     ·obtain ⟨b', off', vb, he, hb', _, d0, _⟩ := HV.out.tr p hp
      cases he
      replace d0 := (eC HB.out hb').trans d0
      have jp : ((p : Nat) : Int) < (t.length : Int) := by omega
      have jc : ((p + 1 : Nat) : Int) - 1 = (p : Int) := by omega
      rw [jc]; clear jc
      generalize t[p]'hp = y' at d0 hd
      go_wp2
      go_quiet (fail)
      go_wp2
      go_quiet (fail)
      go_wp2
      go_ret
      exact ⟨by rw [HR.out]; rfl, Ext.trans HB.out (by first | exact eDn _ _ | exact Ext.trans (eDn _ _) (eDn _ _) | exact Ext.trans (eDn _ _) (Ext.trans (eDn _ _) (eDn _ _)))⟩
    have g1 : (y.nm.toList == x.nm.toList) = false := by rw [beq_eq_false_iff_ne]; intro h; exact k1 (L_inj (by rw [<- tL, <- tL]; exact h))
    by_cases k2 : L x.nm < L y.nm
    ·have HR : Hid (nextE (scan (revT t i) x.dep).1 (scan (revT t i) x.dep).2 x.nm = 6) := hQq (by rw [s1, s2]; simp [nextE, k1, k2])
     have g2 := bl_false (fun h => List.lt_irrefl _ (List.lt_trans k2 h))
     clear s1 s2 k1 k2
     rcases hwhy with rfl | ⟨p, rfl, hp, hd⟩
     ·have jc : ((0 : Nat) : Int) - 1 = -1 := rfl
      rw [jc]; clear jc
      go_wp2
      go_quiet (fail)
      go_wp2
      go_quiet (fail)
      go_wp2
      go_quiet (fail)
      go_wp2
      go_ret
      exact ⟨by rw [HR.out]; rfl, Ext.trans HB.out (by first | exact eDn _ _ | exact Ext.trans (eDn _ _) (eDn _ _) | exact Ext.trans (eDn _ _) (Ext.trans (eDn _ _) (eDn _ _)))⟩
     ·obtain ⟨b', off', vb, he, hb', _, d0, _⟩ := HV.out.tr p hp
      cases he
      replace d0 := (eC HB.out hb').trans d0
      have jp : ((p : Nat) : Int) < (t.length : Int) := by omega
      have jc : ((p + 1 : Nat) : Int) - 1 = (p : Int) := by omega
      rw [jc]; clear jc
      generalize t[p]'hp = y' at d0 hd
      go_wp2
      go_quiet (fail)
      go_wp2
      go_quiet (fail)
      go_wp2
      go_quiet (fail)
      go_wp2
      go_ret
      exact ⟨by rw [HR.out]; rfl, Ext.trans HB.out (by first | exact eDn _ _ | exact Ext.trans (eDn _ _) (eDn _ _) | exact Ext.trans (eDn _ _) (Ext.trans (eDn _ _) (eDn _ _)))⟩
    have g2 := bl_true (lt_of_no k1 k2)
    by_cases k3 : 24 <= n
    ·have HR : Hid (nextE (scan (revT t i) x.dep).1 (scan (revT t i) x.dep).2 x.nm = 3) := hQq (by rw [s1, s2]; simp [nextE, k1, k2, k3])
     clear s1 s2 k1 k2
     rcases hwhy with rfl | ⟨p, rfl, hp, hd⟩
     ·have jc : ((0 : Nat) : Int) - 1 = -1 := rfl
      rw [jc]; clear jc
      go_wp2
      go_quiet (fail)
      go_wp2
      go_quiet (fail)
      go_wp2
      go_quiet (fail)
      go_wp2
      go_ret
      exact ⟨by rw [HR.out]; rfl, Ext.trans HB.out (by first | exact eDn _ _ | exact Ext.trans (eDn _ _) (eDn _ _) | exact Ext.trans (eDn _ _) (Ext.trans (eDn _ _) (eDn _ _)))⟩
     ·obtain ⟨b', off', vb, he, hb', _, d0, _⟩ := HV.out.tr p hp
      cases he
      replace d0 := (eC HB.out hb').trans d0
      have jp : ((p : Nat) : Int) < (t.length : Int) := by omega
      have jc : ((p + 1 : Nat) : Int) - 1 = (p : Int) := by omega
      rw [jc]; clear jc
      generalize t[p]'hp = y' at d0 hd
      go_wp2
      go_quiet (fail)
      go_wp2
      go_quiet (fail)
      go_wp2
      go_quiet (fail)
      go_wp2
      go_ret
      exact ⟨by rw [HR.out]; rfl, Ext.trans HB.out (by first | exact eDn _ _ | exact Ext.trans (eDn _ _) (eDn _ _) | exact Ext.trans (eDn _ _) (Ext.trans (eDn _ _) (eDn _ _)))⟩
    ·have HR : Hid (nextE (scan (revT t i) x.dep).1 (scan (revT t i) x.dep).2 x.nm = 0) := hQq (by rw [s1, s2]; simp [nextE, k1, k2, k3])
     clear s1 s2 k1 k2
     rcases hwhy with rfl | ⟨p, rfl, hp, hd⟩
     ·have jc : ((0 : Nat) : Int) - 1 = -1 := rfl
      rw [jc]; clear jc
      go_wp2
      go_quiet (fail)
      go_wp2
      go_quiet (fail)
      go_wp2
      go_quiet (fail)
      go_wp2
      go_ret
      exact ⟨by rw [HR.out]; rfl, Ext.trans HB.out (by first | exact eDn _ _ | exact Ext.trans (eDn _ _) (eDn _ _) | exact Ext.trans (eDn _ _) (Ext.trans (eDn _ _) (eDn _ _)))⟩
     ·obtain ⟨b', off', vb, he, hb', _, d0, _⟩ := HV.out.tr p hp
      cases he
      replace d0 := (eC HB.out hb').trans d0
      have jp : ((p : Nat) : Int) < (t.length : Int) := by omega
      have jc : ((p + 1 : Nat) : Int) - 1 = (p : Int) := by omega
      rw [jc]; clear jc
      generalize t[p]'hp = y' at d0 hd
      go_wp2
      go_quiet (fail)
      go_wp2
      go_quiet (fail)
      go_wp2
      go_quiet (fail)
      go_wp2
      go_ret
      exact ⟨by rw [HR.out]; rfl, Ext.trans HB.out (by first | exact eDn _ _ | exact Ext.trans (eDn _ _) (eDn _ _) | exact Ext.trans (eDn _ _) (Ext.trans (eDn _ _) (eDn _ _)))⟩
set_option maxRecDepth 100000 in
theorem refCount (B : Nat) (v : Value) (t : List TrN) (c : Int) (w : World) (hv : TrIn B w v t) (hm : t.length <= 1000) : RetB Tryz.prog 73 #[v, .int .i64 c] w (.int .i64 (countC t c t.length)) := by
 unfold RetB
 obtain ⟨aa, cap, rfl⟩ := hv.form
 have HV := hQq hv; clear hv
 go_enter Tryz.func73, Tryz.ntmps73
 go_wp2
 go_loopw [5, 6] (fun n i w' => ∃ (wi : World) (k : Nat), wi = w' /\ k <= t.length /\ i = .int .i64 k /\ n = .int .i64 (countC t c k) /\ countC t c k <= k /\ Ext w w') (fun _ i _ => t.length - (intOf i).toNat)
 case atStart => exact ⟨_, 0, rfl, Nat.zero_le _, rfl, rfl, Nat.le_refl _, bR _ _⟩
 case round =>
  obtain ⟨wi, k, rfl, hk, rfl, rfl, hck, hb⟩ := hrel
  by_cases hlt : k < t.length
  ·obtain ⟨b, off, va, he, hbs, _, _, _, _, _, _, _, _, c7⟩ := HV.out.tr k hlt
   cases he
   replace c7 := (eC hb hbs).trans c7
   have HB := hQq hb; clear hb
   by_cases e : (t[k]'hlt).cl = c
   ·have HN : Hid (countC t c (k + 1) = countC t c k + 1) := hQq (by rw [countC.eq_2, getT_at t k hlt, if_pos e])
    generalize t[k]'hlt = x at c7 e
    have q1 : (x.cl == c) = true := beq_iff_eq.2 e
    clear e
    go_wp2
    go_roundw
    case rel => exact ⟨_, k + 1, rfl, by omega, by go_num, by rw [HN.out]; go_num, by rw [HN.out]; omega, HB.out⟩
    case measure => first | (simp [intOf]; done) | (simp [intOf]; omega)
   ·have HN : Hid (countC t c (k + 1) = countC t c k) := hQq (by rw [countC.eq_2, getT_at t k hlt, if_neg e]; rfl)
    generalize t[k]'hlt = x at c7 e
    have q1 : (x.cl == c) = false := nB e
    clear e
    go_wp2
    go_roundw
    case rel => exact ⟨_, k + 1, rfl, by omega, by go_num, by rw [HN.out], by rw [HN.out]; omega, HB.out⟩
    case measure => first | (simp [intOf]; done) | (simp [intOf]; omega)
  ·obtain rfl : k = t.length := by omega
   have HB := hQq hb; clear hb
   go_wp2
   go_ret
   exact ⟨rfl, HB.out⟩
set_option maxRecDepth 100000 in
set_option maxHeartbeats 4000000 in
theorem refClass (B : Nat) (v : Value) (t : List TrN) (i : Nat) (w : World) (hv : TrIn B w v t) (hi : i < t.length) (hm : t.length <= 1000) (hmost : ∀ k, k <= i -> 0 <= mostC t k /\ mostC t k <= 1000) (hats : ∀ x ∈ t, x.ats.length <= 1000000) : RetB Tryz.prog 72 #[v, .int .i64 i] w (.int .i64 (clsE t i)) := by
 unfold RetB
 obtain ⟨aa, cap, rfl⟩ := hv.form
 obtain ⟨b, off, va, rfl, hb, hva, cc⟩ := hv.tr i hi
 have HV := hQq hv; clear hv
 have HM := hQq hmost; clear hmost
 have HG := hQq (getT_at t i hi)
 have ji : ((i : Nat) : Int) < (t.length : Int) := by omega
 have HAT := hQq hats; clear hats
 have hva' := ListIn.attrs hva
 obtain ⟨a3, cap3, rfl⟩ := hva.form
 generalize t[i]'hi = x at cc HG hva' hva
 have HVA := hQq hva'
 have HC := hQq cc
 clear hva hva' cc
 go_enter Tryz.func72, Tryz.ntmps72
 go_wp2
 go_loopw [5, 6] (fun m kk w' => ∃ (wi : World) (k : Nat), wi = w' /\ k <= i /\ kk = .int .i64 k /\ m = .int .i64 (mostC t k) /\ unlike t i k = false /\ Ext w w') (fun _ kk _ => i - (intOf kk).toNat)
 case atStart => exact ⟨_, 0, rfl, Nat.zero_le _, rfl, rfl, rfl, bR _ _⟩
 case round =>
  obtain ⟨wi, k, rfl, hk, rfl, rfl, hun, hbw⟩ := hrel
  have HU := hQq hun; clear hun
  have CC := cells8 hbw hb HC.out
  by_cases hlt : k < i
  ·have hkt : k < t.length := by omega
   obtain ⟨b', off', vb, he, hb', hvb, dd⟩ := HV.out.tr k hkt
   cases he
   have DD := cells8 hbw hb dd
   have HGK := hQq (getT_at t k hkt)
   have hvb' := (ListIn.attrs hvb).ext hbw
   have hl1 := HAT.out _ (List.getElem_mem hkt)
   obtain ⟨a4, cap4, rfl⟩ := hvb.form
   have jk : ((k : Nat) : Int) < (t.length : Int) := by omega
   have HMS : Hid (mostC t (k + 1) = max (mostC t k) (t[k]'hkt).cl) := hQq (by rw [mostC.eq_2, getT_at t k hkt])
   generalize t[k]'hkt = y at DD HGK hvb' hvb hl1 HMS dd
   have HVB := hQq hvb'
   have hx' := HVA.out.ext hbw
   have HVX := hQq hx'
   have HB := hQq hbw
   have hbb := Nat.lt_of_lt_of_le hb hbw.size
   have hst : ∀ hh : (decide (0 < x.cl) && (y.cl == x.cl) && !likeB y x) = false, unlike t i (k + 1) = false := fun hh => unlike_step HU.out (by rw [HG.out, HGK.out]; exact hh)
   have HST := hQq hst
   clear hst hvb hvb' hx' hbw dd
   by_cases p1 : 0 < x.cl
   case neg =>
    have HN := hQq (HST.out (by simp [p1]))
    obtain ⟨c0, c1, c2, c3, c4, c5, c6, c7⟩ := CC
    obtain ⟨d0, d1, d2, d3, d4, d5, d6, d7⟩ := DD
    have p1' : decide (0 < x.cl) = false := decide_eq_false p1
    go_wp2
    all_goals
     go_quiet (fail)
     go_wp2
     go_roundw
     case rel => exact ⟨_, k + 1, rfl, by omega, by go_num, by rw [HMS.out]; first | done | exact int_eq (by omega), HN.out, Ext.trans HB.out (eDn _ _)⟩
     case measure => first | (simp [intOf]; done) | (simp [intOf]; omega)
   by_cases p2 : y.cl = x.cl
   case neg =>
    have HN := hQq (HST.out (by simp [nB p2]))
    obtain ⟨c0, c1, c2, c3, c4, c5, c6, c7⟩ := CC
    obtain ⟨d0, d1, d2, d3, d4, d5, d6, d7⟩ := DD
    have p2' : (y.cl == x.cl) = false := nB p2
    clear p2
    go_wp2
    all_goals
     go_quiet (fail)
     go_wp2
     go_roundw
     case rel => exact ⟨_, k + 1, rfl, by omega, by go_num, by rw [HMS.out]; first | done | exact int_eq (by omega), HN.out, Ext.trans HB.out (eDn _ _)⟩
     case measure => first | (simp [intOf]; done) | (simp [intOf]; omega)
   have p2' : (y.cl == x.cl) = true := beq_iff_eq.2 p2
   clear p2
   have DD := hQq DD
   have CC := hQq CC
   obtain ⟨c0, c1, c2, c3, c4, c5, c6, c7⟩ := CC.out
   obtain ⟨d0, d1, d2, d3, d4, d5, d6, d7⟩ := DD.out
   have ji0 : (0 : Int) <= (i : Int) := by omega
   have jk0 : (0 : Int) <= (k : Int) := by omega
   cases hl : likeB y x
   ·have HN := hQq (unlike_hit (t := t) (i := i) (k := k) (by rw [HG.out, HGK.out, hl]; simp [p1, p2']) i hlt)
    go_wp2
    all_goals
     go_region_held3 (fun w' => w'.cell? ⟨b, off + k * 8, none⟩ = some (.int .i64 y.dep) /\ w'.cell? ⟨b, off + k * 8 + 1, none⟩ = some (.string y.nm) /\ w'.cell? ⟨b, off + k * 8 + 2, none⟩ = some (.int .i64 y.kd) /\ w'.cell? ⟨b, off + k * 8 + 3, none⟩ = some (.slice a4 y.ats.length cap4) /\ w'.cell? ⟨b, off + k * 8 + 4, none⟩ = some (.string y.dat) /\ w'.cell? ⟨b, off + k * 8 + 5, none⟩ = some (.int .i64 y.ma) /\ w'.cell? ⟨b, off + k * 8 + 6, none⟩ = some (.int .i64 y.mi) /\ w'.cell? ⟨b, off + k * 8 + 7, none⟩ = some (.int .i64 y.cl) /\ w'.cell? ⟨b, off + i * 8, none⟩ = some (.int .i64 x.dep) /\ w'.cell? ⟨b, off + i * 8 + 1, none⟩ = some (.string x.nm) /\ w'.cell? ⟨b, off + i * 8 + 2, none⟩ = some (.int .i64 x.kd) /\ w'.cell? ⟨b, off + i * 8 + 3, none⟩ = some (.slice a3 x.ats.length cap3) /\ w'.cell? ⟨b, off + i * 8 + 4, none⟩ = some (.string x.dat) /\ w'.cell? ⟨b, off + i * 8 + 5, none⟩ = some (.int .i64 x.ma) /\ w'.cell? ⟨b, off + i * 8 + 6, none⟩ = some (.int .i64 x.mi) /\ w'.cell? ⟨b, off + i * 8 + 7, none⟩ = some (.int .i64 x.cl)) (first | go_keep | (refine ⟨?_, ?_, ?_, ?_, ?_, ?_, ?_, ?_, ?_, ?_, ?_, ?_, ?_, ?_, ?_, ?_⟩ <;> assumption))
      ((go_at_call 64; refine (refLike y x _ _ _ (HVB.out.ext (by first | exact eDn _ _ | exact bR _ _ | exact Ext.trans (eDn _ _) (eDn _ _))) (HVX.out.ext (by first | exact eDn _ _ | exact bR _ _ | exact Ext.trans (eDn _ _) (eDn _ _))) hl1).mono ?_; rintro e w3 ⟨rfl, hb3⟩; obtain ⟨g0, g1, g2, g3, g4, g5, g6, g7⟩ := cells8 hb3 hbb DD.out; obtain ⟨f0, f1, f2, f3, f4, f5, f6, f7⟩ := cells8 hb3 hbb CC.out; have H3 := hQq hb3; clear hb3))
     go_wp2
     go_ret
     exact ⟨by unfold clsE; rw [if_pos HN.out]; rfl, Ext.trans HB.out (by first | exact H3.out | exact Ext.trans (eDn _ _) H3.out | exact Ext.trans (eDn _ _) (Ext.trans H3.out (eDn _ _)))⟩
   ·have HN := hQq (HST.out (by simp [hl]))
    go_wp2
    all_goals
     go_region_held3 (fun w' => w'.cell? ⟨b, off + k * 8, none⟩ = some (.int .i64 y.dep) /\ w'.cell? ⟨b, off + k * 8 + 1, none⟩ = some (.string y.nm) /\ w'.cell? ⟨b, off + k * 8 + 2, none⟩ = some (.int .i64 y.kd) /\ w'.cell? ⟨b, off + k * 8 + 3, none⟩ = some (.slice a4 y.ats.length cap4) /\ w'.cell? ⟨b, off + k * 8 + 4, none⟩ = some (.string y.dat) /\ w'.cell? ⟨b, off + k * 8 + 5, none⟩ = some (.int .i64 y.ma) /\ w'.cell? ⟨b, off + k * 8 + 6, none⟩ = some (.int .i64 y.mi) /\ w'.cell? ⟨b, off + k * 8 + 7, none⟩ = some (.int .i64 y.cl) /\ w'.cell? ⟨b, off + i * 8, none⟩ = some (.int .i64 x.dep) /\ w'.cell? ⟨b, off + i * 8 + 1, none⟩ = some (.string x.nm) /\ w'.cell? ⟨b, off + i * 8 + 2, none⟩ = some (.int .i64 x.kd) /\ w'.cell? ⟨b, off + i * 8 + 3, none⟩ = some (.slice a3 x.ats.length cap3) /\ w'.cell? ⟨b, off + i * 8 + 4, none⟩ = some (.string x.dat) /\ w'.cell? ⟨b, off + i * 8 + 5, none⟩ = some (.int .i64 x.ma) /\ w'.cell? ⟨b, off + i * 8 + 6, none⟩ = some (.int .i64 x.mi) /\ w'.cell? ⟨b, off + i * 8 + 7, none⟩ = some (.int .i64 x.cl)) (first | go_keep | (refine ⟨?_, ?_, ?_, ?_, ?_, ?_, ?_, ?_, ?_, ?_, ?_, ?_, ?_, ?_, ?_, ?_⟩ <;> assumption))
      ((go_at_call 64; refine (refLike y x _ _ _ (HVB.out.ext (by first | exact eDn _ _ | exact bR _ _ | exact Ext.trans (eDn _ _) (eDn _ _))) (HVX.out.ext (by first | exact eDn _ _ | exact bR _ _ | exact Ext.trans (eDn _ _) (eDn _ _))) hl1).mono ?_; rintro e w3 ⟨rfl, hb3⟩; obtain ⟨g0, g1, g2, g3, g4, g5, g6, g7⟩ := cells8 hb3 hbb DD.out; obtain ⟨f0, f1, f2, f3, f4, f5, f6, f7⟩ := cells8 hb3 hbb CC.out; have H3 := hQq hb3; clear hb3))
     go_wp2
     go_roundw
     case rel => exact ⟨_, k + 1, rfl, by omega, by go_num, by rw [HMS.out]; first | done | exact int_eq (by omega), HN.out, Ext.trans HB.out (by first | exact H3.out | exact Ext.trans (eDn _ _) H3.out | exact Ext.trans (eDn _ _) (Ext.trans H3.out (eDn _ _)))⟩
     case measure => first | (simp [intOf]; done) | (simp [intOf]; omega)
  ·obtain rfl : k = i := by omega
   have HB := hQq hbw
   obtain ⟨m0, m1⟩ := HM.out k (Nat.le_refl _)
   obtain ⟨c0, c1, c2, c3, c4, c5, c6, c7⟩ := CC
   have HR : Hid (clsE t k = if x.cl < 0 \/ mostC t k + 1 < x.cl then 6 else 0) := hQq (by unfold clsE; rw [if_neg (by rw [HU.out]; exact Bool.false_ne_true), HG.out])
   clear hbw
   by_cases r1 : x.cl < 0
   ·go_wp2
    go_ret
    exact ⟨by rw [HR.out, if_pos (.inl r1)]; rfl, HB.out⟩
   by_cases r2 : mostC t k + 1 < x.cl
   ·go_wp2
    go_ret
    exact ⟨by rw [HR.out, if_pos (.inr r2)]; rfl, HB.out⟩
   ·go_wp2
    go_ret
    exact ⟨by rw [HR.out, if_neg (by omega)]; rfl, HB.out⟩
set_option maxRecDepth 100000 in
set_option maxHeartbeats 4000000 in
theorem refSameList (B B' : Nat) (u v : Value) (s t : List TrN) (w : World) (hu : TrIn B w u s) (hv : TrIn B' w v t) (hl : s.length <= 1000000) (hats : ∀ x ∈ s, x.ats.length <= 1000000) :
  RetB Tryz.prog 16 #[u, v] w (.bool (sameTB s t)) := by
 unfold RetB
 obtain ⟨aa, cap, rfl⟩ := hu.form
 obtain ⟨ba, cap2, rfl⟩ := hv.form
 have HU := hQq hu; clear hu
 have HV := hQq hv; clear hv
 have HAT := hQq hats; clear hats
 by_cases hab : s.length = t.length
 case neg =>
  have e0 : (((s.length : Nat) : Int) != ((t.length : Nat) : Int)) = true := by rw [bne_iff_ne]; omega
  rw [sameTB_no fun e => hab (by rw [e])]
  go_enter Tryz.func16, Tryz.ntmps16
  go_wp2
  go_ret
  exact ⟨rfl, bR _ _⟩
 have e0 : (((s.length : Nat) : Int) != ((t.length : Nat) : Int)) = false := by rw [bne_eq_false_iff_eq]; omega
 have HAB := hQq hab; clear hab
 go_enter Tryz.func16, Tryz.ntmps16
 go_wp2
 go_loopw [5] (fun i w' => ∃ (wi : World) (k : Nat), wi = w' /\ k <= s.length /\ i = .int .i64 k /\ SameL s t k /\ Ext w w') (fun i _ => s.length - (intOf i).toNat)
 case atStart => exact ⟨_, 0, rfl, Nat.zero_le _, rfl, fun j hj => absurd hj (by omega), bR _ _⟩
 case round =>
  obtain ⟨wi, k, rfl, hk, rfl, hs, hb⟩ := hrel
  have HS := hQq hs; clear hs
  by_cases hlt : k < s.length
  case neg =>
   obtain rfl : k = s.length := by omega
   have HN := hQq (sameTB_yes (sameL_end HAB.out HS.out))
   have HB := hQq hb; clear hb
   go_wp2
   go_ret
   exact ⟨by rw [HN.out]; rfl, HB.out⟩
  have hlt2 : k < t.length := by have := HAB.out; omega
  obtain ⟨bx, offx, vx, hex, hbx, hvx, xx⟩ := HU.out.tr k hlt
  obtain ⟨by1, offy, vy, hey, hby, hvy, yy⟩ := HV.out.tr k hlt2
  cases hex
  cases hey
  have XX := cells8 hb hbx xx
  have YY := cells8 hb hby yy
  have hvx' := (ListIn.attrs hvx).ext hb
  have hvy' := (ListIn.attrs hvy).ext hb
  have hl1 := HAT.out _ (List.getElem_mem hlt)
  obtain ⟨ax, capx, rfl⟩ := hvx.form
  obtain ⟨ay, capy, rfl⟩ := hvy.form
  have hgx : s[k]? = some (s[k]'hlt) := List.getElem?_eq_getElem hlt
  have hgy : t[k]? = some (t[k]'hlt2) := List.getElem?_eq_getElem hlt2
  generalize s[k]'hlt = x at XX hvx' hvx xx hgx hl1
  generalize t[k]'hlt2 = y at YY hvy' hvy yy hgy
  have HGX := hQq hgx; have HGY := hQq hgy
  have HVX := hQq hvx'; have HVY := hQq hvy'
  have CX := hQq XX; have CY := hQq YY
  have HB := hQq hb
  have hne : ¬ x = y -> sameTB s t = false := fun he => sameTB_no fun e => he (by have h1 := HGX.out; rw [e, HGY.out] at h1; injection h1 with h1; exact h1.symm)
  have HNE := hQq hne
  replace hbx := Nat.lt_of_lt_of_le hbx hb.size
  replace hby := Nat.lt_of_lt_of_le hby hb.size
  have j1 : ((k : Nat) : Int) < (s.length : Int) := by omega
  have j2 : ((k : Nat) : Int) < (t.length : Int) := by omega
  have j0 : (0 : Int) <= (k : Int) := by omega
  clear hgx hgy hvx' hvy' hvx hvy xx yy XX YY hb hne e0
  obtain ⟨c0, c1, c2, c3, c4, c5, c6, c7⟩ := CX.out
  obtain ⟨d0, d1, d2, d3, d4, d5, d6, d7⟩ := CY.out
  by_cases p1 : x.dep = y.dep
  case neg =>
   have HN := hQq (HNE.out fun e => p1 (by rw [e]))
   have q1 : (x.dep == y.dep) = false := nB p1
   have q2 : (x.dep != y.dep) = true := bne_iff_ne.2 p1
   clear p1
   go_wp2
   go_quiet (fail)
   go_wp2
   go_ret
   exact ⟨by rw [HN.out]; rfl, Ext.trans HB.out (eDn _ _)⟩
  have q2 : (x.dep != y.dep) = false := by rw [bne_eq_false_iff_eq]; exact p1
  have P1 := hQq p1; clear p1
  cases p2 : x.nm.toList == y.nm.toList
  ·have HN := hQq (HNE.out fun e => by rw [e] at p2; simp at p2)
   go_wp2
   go_quiet (fail)
   go_wp2
   go_ret
   exact ⟨by rw [HN.out]; rfl, Ext.trans HB.out (eDn _ _)⟩
  by_cases p3 : x.cl = y.cl
  case neg =>
   have HN := hQq (HNE.out fun e => p3 (by rw [e]))
   have q3 : (x.cl != y.cl) = true := bne_iff_ne.2 p3
   clear p3
   go_wp2
   go_quiet (fail)
   go_wp2
   go_ret
   exact ⟨by rw [HN.out]; rfl, Ext.trans HB.out (eDn _ _)⟩
  have q3 : (x.cl != y.cl) = false := by rw [bne_eq_false_iff_eq]; exact p3
  have P3 := hQq p3; clear p3
  cases hlk : likeB x y
  ·have HN := hQq (HNE.out fun e => by rw [likeB_iff.2 (by rw [e]; simp)] at hlk; cases hlk)
   go_wp2
   go_region_held3 (fun w' => w'.cell? ⟨bx, offx + k * 8, none⟩ = some (.int .i64 x.dep) /\ w'.cell? ⟨bx, offx + k * 8 + 1, none⟩ = some (.string x.nm) /\ w'.cell? ⟨bx, offx + k * 8 + 2, none⟩ = some (.int .i64 x.kd) /\ w'.cell? ⟨bx, offx + k * 8 + 3, none⟩ = some (.slice ax x.ats.length capx) /\ w'.cell? ⟨bx, offx + k * 8 + 4, none⟩ = some (.string x.dat) /\ w'.cell? ⟨bx, offx + k * 8 + 5, none⟩ = some (.int .i64 x.ma) /\ w'.cell? ⟨bx, offx + k * 8 + 6, none⟩ = some (.int .i64 x.mi) /\ w'.cell? ⟨bx, offx + k * 8 + 7, none⟩ = some (.int .i64 x.cl) /\ w'.cell? ⟨by1, offy + k * 8, none⟩ = some (.int .i64 y.dep) /\ w'.cell? ⟨by1, offy + k * 8 + 1, none⟩ = some (.string y.nm) /\ w'.cell? ⟨by1, offy + k * 8 + 2, none⟩ = some (.int .i64 y.kd) /\ w'.cell? ⟨by1, offy + k * 8 + 3, none⟩ = some (.slice ay y.ats.length capy) /\ w'.cell? ⟨by1, offy + k * 8 + 4, none⟩ = some (.string y.dat) /\ w'.cell? ⟨by1, offy + k * 8 + 5, none⟩ = some (.int .i64 y.ma) /\ w'.cell? ⟨by1, offy + k * 8 + 6, none⟩ = some (.int .i64 y.mi) /\ w'.cell? ⟨by1, offy + k * 8 + 7, none⟩ = some (.int .i64 y.cl)) (first | go_keep | (refine ⟨?_, ?_, ?_, ?_, ?_, ?_, ?_, ?_, ?_, ?_, ?_, ?_, ?_, ?_, ?_, ?_⟩ <;> assumption))
    ((go_at_call 64; refine (refLike x y _ _ _ (HVX.out.ext (by first | exact eDn _ _ | exact bR _ _ | exact Ext.trans (eDn _ _) (eDn _ _))) (HVY.out.ext (by first | exact eDn _ _ | exact bR _ _ | exact Ext.trans (eDn _ _) (eDn _ _))) hl1).mono ?_; rintro e w3 ⟨rfl, hb3⟩; obtain ⟨g0, g1, g2, g3, g4, g5, g6, g7⟩ := cells8 hb3 hbx CX.out; obtain ⟨f0, f1, f2, f3, f4, f5, f6, f7⟩ := cells8 hb3 hby CY.out; have H3 := hQq hb3; clear hb3))
   go_wp2
   go_ret
   exact ⟨by rw [HN.out]; rfl, Ext.trans HB.out (by first | exact H3.out | exact Ext.trans (eDn _ _) H3.out | exact Ext.trans (eDn _ _) (Ext.trans H3.out (eDn _ _)))⟩
  ·have HEQ := hQq (trN_eq P1.out (L_inj (by rw [<- tL, <- tL]; exact beq_iff_eq.1 p2)) P3.out hlk)
   have HN : Hid (SameL s t (k + 1)) := by
    intro j hj
    by_cases e : j = k
    ·subst e; rw [HGX.out, HGY.out, HEQ.out]
    ·exact HS.out j (by omega)
   go_wp2
   go_region_held3 (fun w' => w'.cell? ⟨bx, offx + k * 8, none⟩ = some (.int .i64 x.dep) /\ w'.cell? ⟨bx, offx + k * 8 + 1, none⟩ = some (.string x.nm) /\ w'.cell? ⟨bx, offx + k * 8 + 2, none⟩ = some (.int .i64 x.kd) /\ w'.cell? ⟨bx, offx + k * 8 + 3, none⟩ = some (.slice ax x.ats.length capx) /\ w'.cell? ⟨bx, offx + k * 8 + 4, none⟩ = some (.string x.dat) /\ w'.cell? ⟨bx, offx + k * 8 + 5, none⟩ = some (.int .i64 x.ma) /\ w'.cell? ⟨bx, offx + k * 8 + 6, none⟩ = some (.int .i64 x.mi) /\ w'.cell? ⟨bx, offx + k * 8 + 7, none⟩ = some (.int .i64 x.cl) /\ w'.cell? ⟨by1, offy + k * 8, none⟩ = some (.int .i64 y.dep) /\ w'.cell? ⟨by1, offy + k * 8 + 1, none⟩ = some (.string y.nm) /\ w'.cell? ⟨by1, offy + k * 8 + 2, none⟩ = some (.int .i64 y.kd) /\ w'.cell? ⟨by1, offy + k * 8 + 3, none⟩ = some (.slice ay y.ats.length capy) /\ w'.cell? ⟨by1, offy + k * 8 + 4, none⟩ = some (.string y.dat) /\ w'.cell? ⟨by1, offy + k * 8 + 5, none⟩ = some (.int .i64 y.ma) /\ w'.cell? ⟨by1, offy + k * 8 + 6, none⟩ = some (.int .i64 y.mi) /\ w'.cell? ⟨by1, offy + k * 8 + 7, none⟩ = some (.int .i64 y.cl)) (first | go_keep | (refine ⟨?_, ?_, ?_, ?_, ?_, ?_, ?_, ?_, ?_, ?_, ?_, ?_, ?_, ?_, ?_, ?_⟩ <;> assumption))
    ((go_at_call 64; refine (refLike x y _ _ _ (HVX.out.ext (by first | exact eDn _ _ | exact bR _ _ | exact Ext.trans (eDn _ _) (eDn _ _))) (HVY.out.ext (by first | exact eDn _ _ | exact bR _ _ | exact Ext.trans (eDn _ _) (eDn _ _))) hl1).mono ?_; rintro e w3 ⟨rfl, hb3⟩; obtain ⟨g0, g1, g2, g3, g4, g5, g6, g7⟩ := cells8 hb3 hbx CX.out; obtain ⟨f0, f1, f2, f3, f4, f5, f6, f7⟩ := cells8 hb3 hby CY.out; have H3 := hQq hb3; clear hb3))
   go_wp2
   go_roundw
   case rel => exact ⟨_, k + 1, rfl, by omega, by go_num, HN.out, Ext.trans HB.out (by first | exact H3.out | exact Ext.trans (eDn _ _) H3.out | exact Ext.trans (eDn _ _) (Ext.trans H3.out (eDn _ _)))⟩
   case measure => first | (simp [intOf]; done) | (simp [intOf]; omega)
set_option maxRecDepth 100000 in
set_option maxHeartbeats 8000000 in
theorem refTreeCheck (B : Nat) (v : Value) (t : List TrN) (w : World) (hv : TrIn B w v t) (hsm : SmallT t) :
  RetB Tryz.prog 19 #[v] w (.tuple #[.int .i64 (treeN t), .int .i64 (treeE t)]) := by
 unfold RetB
 obtain ⟨aa, cap, rfl⟩ := hv.form
 have HV := hQq hv; clear hv
 have HSM := hQq hsm; clear hsm
 have HAT : Hid (∀ x ∈ t, x.ats.length <= 1000000) := fun x hx => (HSM.out x hx).2.2
 by_cases h0 : t.length = 0
 ·obtain ⟨e1, e2⟩ := tree_of (treeT_nil h0)
  rw [e1, e2]; clear e1 e2
  go_enter Tryz.func19, Tryz.ntmps19
  go_wp2
  go_ret2
  exact ⟨rfl, bR _ _⟩
 have g0 : (((t.length : Nat) : Int) == 0) = false := nB (by omega)
 have g1 : 0 < t.length := by omega
 by_cases h1 : 120 < t.length
 ·obtain ⟨e1, e2⟩ := tree_of (treeT_long h1)
  rw [e1, e2]; clear e1 e2
  go_enter Tryz.func19, Tryz.ntmps19
  go_wp2
  go_ret2
  exact ⟨rfl, bR _ _⟩
 have H0 := hQq h0; clear h0
 go_enter Tryz.func19, Tryz.ntmps19
 go_wp2
 clear g0
 go_loopw [4] (fun i w' => ∃ (wi : World) (k : Nat), wi = w' /\ k <= t.length /\ i = .int .i64 k /\ AllOk t k /\ Ext w w') (fun i _ => t.length - (intOf i).toNat)
 case atStart => exact ⟨_, 0, rfl, Nat.zero_le _, rfl, fun j hj => absurd hj (by omega), bR _ _⟩
 case round =>
  obtain ⟨wi, k, rfl, hk, rfl, hok, hb⟩ := hrel
  have HOK := hQq hok; clear hok
  by_cases hlt : k < t.length
  case neg =>
   obtain rfl : k = t.length := by omega
   have HB := hQq hb; clear hb
   go_wp2
   go_loopw [6] (fun i w' => ∃ (wi : World) (k : Nat), wi = w' /\ k <= t.length /\ i = .int .i64 k /\ (∀ j, j < k -> loneB t j = false) /\ Ext w w') (fun i _ => t.length - (intOf i).toNat)
   case atStart => exact ⟨_, 0, rfl, Nat.zero_le _, rfl, fun j hj => absurd hj (by omega), HB.out⟩
   case round =>
    clear HB hk hlt
    obtain ⟨wi, k, rfl, hk, rfl, hlo, hb⟩ := hrel
    have HLO := hQq hlo; clear hlo
    by_cases hlt : k < t.length
    case neg =>
     obtain rfl : k = t.length := by omega
     have HR := hQq (tree_of (treeT_ok H0.out h1 HOK.out HLO.out))
     have HB := hQq hb; clear hb
     go_wp2
     go_ret2
     exact ⟨by rw [HR.out.1, HR.out.2]; rfl, HB.out⟩
    obtain ⟨b, off, va, he, hbx, _, _, _, _, _, _, _, _, c7⟩ := HV.out.tr k hlt
    cases he
    have HGT := hQq (getT_at t k hlt)
    have d7 := (eC hb hbx).trans c7
    have HB := hQq hb
    generalize t[k]'hlt = x at c7 d7 HGT
    have j1 : ((k : Nat) : Int) < (t.length : Int) := by omega
    have j0 : (0 : Int) <= (k : Int) := by omega
    by_cases p1 : 0 < x.cl
    case neg =>
     have HN : Hid (∀ j, j < k + 1 -> loneB t j = false) := by
      intro j hj
      by_cases e : j = k
      ·subst e; unfold loneB; rw [HGT.out]; simp [p1]
      ·exact HLO.out j (by omega)
     have p1' : decide (0 < x.cl) = false := decide_eq_false p1
     clear hb c7
     go_wp2
     go_roundw
     case rel => exact ⟨_, k + 1, rfl, by omega, by go_num, HN.out, HB.out⟩
     case measure => first | (simp [intOf]; done) | (simp [intOf]; omega)
    by_cases p2 : countC t x.cl t.length = 1
    case neg =>
     have HN : Hid (∀ j, j < k + 1 -> loneB t j = false) := by
      intro j hj
      by_cases e : j = k
      ·subst e; unfold loneB; rw [HGT.out]; simp [p2]
      ·exact HLO.out j (by omega)
     have p2' : (((countC t x.cl t.length : Nat) : Int) == 1) = false := nB (by omega)
     clear hb c7 p2
     go_wp2_with (go_at_call 73; refine (refCount B _ t x.cl _ (HV.out.ext okT HB.out) (by omega)).mono ?_; rintro e w1 ⟨rfl, hb1⟩; replace HB := hQq (Ext.trans HB.out hb1); clear hb1)
     go_roundw
     case rel => exact ⟨_, k + 1, rfl, by omega, by go_num, HN.out, HB.out⟩
     case measure => first | (simp [intOf]; done) | (simp [intOf]; omega)
    ·have HR := hQq (tree_of (treeT_lone h1 HOK.out hlt HLO.out (by unfold loneB; rw [HGT.out]; simp [p1, p2])))
     have p2' : (((countC t x.cl t.length : Nat) : Int) == 1) = true := beq_iff_eq.2 (by omega)
     clear hb c7 p2
     go_wp2_with (go_at_call 73; refine (refCount B _ t x.cl _ (HV.out.ext okT HB.out) (by omega)).mono ?_; rintro e w1 ⟨rfl, hb1⟩; replace HB := hQq (Ext.trans HB.out hb1); clear hb1)
     go_ret2
     exact ⟨by rw [HR.out.1, HR.out.2]; rfl, HB.out⟩
  obtain ⟨b, off, va, he, hbx, hva, xx⟩ := HV.out.tr k hlt
  cases he
  have HGT := hQq (getT_at t k hlt)
  have hvx := ListIn.attrs hva
  obtain ⟨ax, capx, rfl⟩ := hva.form
  have HNS : Hid ((getT t k).nm.size <= 1000000) := hQq (by rw [HGT.out]; exact (HSM.out _ (List.getElem_mem hlt)).1)
  have HAM : Hid (∀ a ∈ (t[k]'hlt).ats, a.1.size <= 1000000 /\ a.2.size <= 1000000) := (HSM.out _ (List.getElem_mem hlt)).2.1
  generalize t[k]'hlt = x at xx HGT hvx HAM hva
  have XX := hQq xx
  have HVX := hQq hvx
  obtain ⟨c0, c1, c2, c3, c4, c5, c6, c7⟩ := cells8 hb hbx xx
  have HB := hQq hb
  have HP : Hid (k ≠ 0 -> 0 <= (getT t (k - 1)).dep /\ (getT t (k - 1)).dep <= 1000) := fun hk0 => by
   obtain ⟨a, _⟩ := node_parts (HOK.out (k - 1) (by omega))
   have := shape_bd a; omega
  have HMC : Hid (∀ j, j <= k -> 0 <= mostC t j /\ mostC t j <= 1000) := fun j hj => by
   have := mostC_bd j (fun i hi => HOK.out i (by omega)); omega
  have j1 : ((k : Nat) : Int) < (t.length : Int) := by omega
  have j0 : (0 : Int) <= (k : Int) := by omega
  clear xx hvx hva hb
  by_cases hk0 : k = 0
  ·have HK0 := hQq hk0
   have z0 : decide ((0 : Int) < (k : Int)) = false := decide_eq_false (by omega)
   have z1 : decide (0 < k) = false := decide_eq_false (by omega)
   clear hk0
   by_cases hx : shapeE t k = 0
   case neg =>
    have hn : nodeE t k = shapeE t k := nodeE_shape hx
    have HR := hQq (tree_of (treeT_node (by omega) hlt HOK.out (show nodeE t k ≠ 0 by rw [hn]; exact hx)))
    have HR2 := hQq hn
    have q1 : (shapeE t k == 0) = false := nB hx
    have q2 : (shapeE t k != 0) = true := bne_iff_ne.2 hx
    clear hx hn
    go_wp2_with (first | (go_at_call 68; refine (refShape B _ t k _ (HV.out.ext okT HB.out) hlt (by omega) HP.out).mono ?_; rintro e w1 ⟨rfl, hb1⟩; replace HB := hQq (Ext.trans HB.out hb1); clear hb1; obtain ⟨c0, c1, c2, c3, c4, c5, c6, c7⟩ := cells8 HB.out hbx XX.out) | (go_at_call 69; refine (refEntry B _ t k _ (HV.out.ext okT HB.out) hlt (by omega) HNS.out).mono ?_; rintro e w1 ⟨rfl, hb1⟩; replace HB := hQq (Ext.trans HB.out hb1); clear hb1; obtain ⟨c0, c1, c2, c3, c4, c5, c6, c7⟩ := cells8 HB.out hbx XX.out) | (go_at_call 70; refine (refKind x _ _ ⟨_, _, rfl⟩).mono ?_; rintro e w1 ⟨rfl, hb1⟩; replace HB := hQq (Ext.trans HB.out hb1); clear hb1; obtain ⟨c0, c1, c2, c3, c4, c5, c6, c7⟩ := cells8 HB.out hbx XX.out) | (go_at_call 71; refine (refCheck _ x.ats _ (HVX.out.ext HB.out) HAM.out).mono ?_; rintro e w1 ⟨rfl, hb1⟩; replace HB := hQq (Ext.trans HB.out hb1); clear hb1) | (go_at_call 72; refine (refClass B _ t k _ (HV.out.ext okT HB.out) hlt (by omega) HMC.out HAT.out).mono ?_; rintro e w1 ⟨rfl, hb1⟩; replace HB := hQq (Ext.trans HB.out hb1); clear hb1))
    go_ret2
    exact ⟨by rw [HR.out.1, HR.out.2, HR2.out]; rfl, HB.out⟩
   have s1 := hx
   clear hx
   have HE2 : Hid (k ≠ 0 -> entryE t k = 0) := hQq (fun h => absurd HK0.out h)
   by_cases hx : kindE x = 0
   case neg =>
    have hn : nodeE t k = kindE x := nodeE_kind HGT.out s1 HE2.out hx
    have HR := hQq (tree_of (treeT_node (by omega) hlt HOK.out (show nodeE t k ≠ 0 by rw [hn]; exact hx)))
    have HR2 := hQq hn
    have q1 : (kindE x == 0) = false := nB hx
    have q2 : (kindE x != 0) = true := bne_iff_ne.2 hx
    clear hx hn
    go_wp2_with (first | (go_at_call 68; refine (refShape B _ t k _ (HV.out.ext okT HB.out) hlt (by omega) HP.out).mono ?_; rintro e w1 ⟨rfl, hb1⟩; replace HB := hQq (Ext.trans HB.out hb1); clear hb1; obtain ⟨c0, c1, c2, c3, c4, c5, c6, c7⟩ := cells8 HB.out hbx XX.out) | (go_at_call 69; refine (refEntry B _ t k _ (HV.out.ext okT HB.out) hlt (by omega) HNS.out).mono ?_; rintro e w1 ⟨rfl, hb1⟩; replace HB := hQq (Ext.trans HB.out hb1); clear hb1; obtain ⟨c0, c1, c2, c3, c4, c5, c6, c7⟩ := cells8 HB.out hbx XX.out) | (go_at_call 70; refine (refKind x _ _ ⟨_, _, rfl⟩).mono ?_; rintro e w1 ⟨rfl, hb1⟩; replace HB := hQq (Ext.trans HB.out hb1); clear hb1; obtain ⟨c0, c1, c2, c3, c4, c5, c6, c7⟩ := cells8 HB.out hbx XX.out) | (go_at_call 71; refine (refCheck _ x.ats _ (HVX.out.ext HB.out) HAM.out).mono ?_; rintro e w1 ⟨rfl, hb1⟩; replace HB := hQq (Ext.trans HB.out hb1); clear hb1) | (go_at_call 72; refine (refClass B _ t k _ (HV.out.ext okT HB.out) hlt (by omega) HMC.out HAT.out).mono ?_; rintro e w1 ⟨rfl, hb1⟩; replace HB := hQq (Ext.trans HB.out hb1); clear hb1))
    go_ret2
    exact ⟨by rw [HR.out.1, HR.out.2, HR2.out]; rfl, HB.out⟩
   have s3 := hx
   clear hx
   by_cases hx : chkE x.ats = 0
   case neg =>
    have hn : nodeE t k = chkE x.ats := nodeE_attrs HGT.out s1 HE2.out s3 hx
    have HR := hQq (tree_of (treeT_node (by omega) hlt HOK.out (show nodeE t k ≠ 0 by rw [hn]; exact hx)))
    have HR2 := hQq hn
    have q1 : (chkE x.ats == 0) = false := nB hx
    have q2 : (chkE x.ats != 0) = true := bne_iff_ne.2 hx
    clear hx hn
    go_wp2_with (first | (go_at_call 68; refine (refShape B _ t k _ (HV.out.ext okT HB.out) hlt (by omega) HP.out).mono ?_; rintro e w1 ⟨rfl, hb1⟩; replace HB := hQq (Ext.trans HB.out hb1); clear hb1; obtain ⟨c0, c1, c2, c3, c4, c5, c6, c7⟩ := cells8 HB.out hbx XX.out) | (go_at_call 69; refine (refEntry B _ t k _ (HV.out.ext okT HB.out) hlt (by omega) HNS.out).mono ?_; rintro e w1 ⟨rfl, hb1⟩; replace HB := hQq (Ext.trans HB.out hb1); clear hb1; obtain ⟨c0, c1, c2, c3, c4, c5, c6, c7⟩ := cells8 HB.out hbx XX.out) | (go_at_call 70; refine (refKind x _ _ ⟨_, _, rfl⟩).mono ?_; rintro e w1 ⟨rfl, hb1⟩; replace HB := hQq (Ext.trans HB.out hb1); clear hb1; obtain ⟨c0, c1, c2, c3, c4, c5, c6, c7⟩ := cells8 HB.out hbx XX.out) | (go_at_call 71; refine (refCheck _ x.ats _ (HVX.out.ext HB.out) HAM.out).mono ?_; rintro e w1 ⟨rfl, hb1⟩; replace HB := hQq (Ext.trans HB.out hb1); clear hb1) | (go_at_call 72; refine (refClass B _ t k _ (HV.out.ext okT HB.out) hlt (by omega) HMC.out HAT.out).mono ?_; rintro e w1 ⟨rfl, hb1⟩; replace HB := hQq (Ext.trans HB.out hb1); clear hb1))
    go_ret2
    exact ⟨by rw [HR.out.1, HR.out.2, HR2.out]; rfl, HB.out⟩
   have s4 := hx
   clear hx
   by_cases hx : clsE t k = 0
   case neg =>
    have hn : nodeE t k = clsE t k := nodeE_cls HGT.out s1 HE2.out s3 s4
    have HR := hQq (tree_of (treeT_node (by omega) hlt HOK.out (show nodeE t k ≠ 0 by rw [hn]; exact hx)))
    have HR2 := hQq hn
    have q1 : (clsE t k == 0) = false := nB hx
    have q2 : (clsE t k != 0) = true := bne_iff_ne.2 hx
    clear hx hn
    go_wp2_with (first | (go_at_call 68; refine (refShape B _ t k _ (HV.out.ext okT HB.out) hlt (by omega) HP.out).mono ?_; rintro e w1 ⟨rfl, hb1⟩; replace HB := hQq (Ext.trans HB.out hb1); clear hb1; obtain ⟨c0, c1, c2, c3, c4, c5, c6, c7⟩ := cells8 HB.out hbx XX.out) | (go_at_call 69; refine (refEntry B _ t k _ (HV.out.ext okT HB.out) hlt (by omega) HNS.out).mono ?_; rintro e w1 ⟨rfl, hb1⟩; replace HB := hQq (Ext.trans HB.out hb1); clear hb1; obtain ⟨c0, c1, c2, c3, c4, c5, c6, c7⟩ := cells8 HB.out hbx XX.out) | (go_at_call 70; refine (refKind x _ _ ⟨_, _, rfl⟩).mono ?_; rintro e w1 ⟨rfl, hb1⟩; replace HB := hQq (Ext.trans HB.out hb1); clear hb1; obtain ⟨c0, c1, c2, c3, c4, c5, c6, c7⟩ := cells8 HB.out hbx XX.out) | (go_at_call 71; refine (refCheck _ x.ats _ (HVX.out.ext HB.out) HAM.out).mono ?_; rintro e w1 ⟨rfl, hb1⟩; replace HB := hQq (Ext.trans HB.out hb1); clear hb1) | (go_at_call 72; refine (refClass B _ t k _ (HV.out.ext okT HB.out) hlt (by omega) HMC.out HAT.out).mono ?_; rintro e w1 ⟨rfl, hb1⟩; replace HB := hQq (Ext.trans HB.out hb1); clear hb1))
    go_ret2
    exact ⟨by rw [HR.out.1, HR.out.2, HR2.out]; rfl, HB.out⟩
   have s5 := hx
   clear hx
   have HN := hQq (HOK.out.step ((nodeE_cls HGT.out s1 HE2.out s3 s4).trans s5))
   go_wp2_with (first | (go_at_call 68; refine (refShape B _ t k _ (HV.out.ext okT HB.out) hlt (by omega) HP.out).mono ?_; rintro e w1 ⟨rfl, hb1⟩; replace HB := hQq (Ext.trans HB.out hb1); clear hb1; obtain ⟨c0, c1, c2, c3, c4, c5, c6, c7⟩ := cells8 HB.out hbx XX.out) | (go_at_call 69; refine (refEntry B _ t k _ (HV.out.ext okT HB.out) hlt (by omega) HNS.out).mono ?_; rintro e w1 ⟨rfl, hb1⟩; replace HB := hQq (Ext.trans HB.out hb1); clear hb1; obtain ⟨c0, c1, c2, c3, c4, c5, c6, c7⟩ := cells8 HB.out hbx XX.out) | (go_at_call 70; refine (refKind x _ _ ⟨_, _, rfl⟩).mono ?_; rintro e w1 ⟨rfl, hb1⟩; replace HB := hQq (Ext.trans HB.out hb1); clear hb1; obtain ⟨c0, c1, c2, c3, c4, c5, c6, c7⟩ := cells8 HB.out hbx XX.out) | (go_at_call 71; refine (refCheck _ x.ats _ (HVX.out.ext HB.out) HAM.out).mono ?_; rintro e w1 ⟨rfl, hb1⟩; replace HB := hQq (Ext.trans HB.out hb1); clear hb1) | (go_at_call 72; refine (refClass B _ t k _ (HV.out.ext okT HB.out) hlt (by omega) HMC.out HAT.out).mono ?_; rintro e w1 ⟨rfl, hb1⟩; replace HB := hQq (Ext.trans HB.out hb1); clear hb1))
   go_roundw
   case rel => exact ⟨_, k + 1, rfl, by omega, by go_num, HN.out, HB.out⟩
   case measure => first | (simp [intOf]; done) | (simp [intOf]; omega)
  ·have HK0 := hQq hk0
   have z0 : decide ((0 : Int) < (k : Int)) = true := decide_eq_true (by omega)
   have z1 : 0 < k := by omega
   clear hk0
   by_cases hx : shapeE t k = 0
   case neg =>
    have hn : nodeE t k = shapeE t k := nodeE_shape hx
    have HR := hQq (tree_of (treeT_node (by omega) hlt HOK.out (show nodeE t k ≠ 0 by rw [hn]; exact hx)))
    have HR2 := hQq hn
    have q1 : (shapeE t k == 0) = false := nB hx
    have q2 : (shapeE t k != 0) = true := bne_iff_ne.2 hx
    clear hx hn
    go_wp2_with (first | (go_at_call 68; refine (refShape B _ t k _ (HV.out.ext okT HB.out) hlt (by omega) HP.out).mono ?_; rintro e w1 ⟨rfl, hb1⟩; replace HB := hQq (Ext.trans HB.out hb1); clear hb1; obtain ⟨c0, c1, c2, c3, c4, c5, c6, c7⟩ := cells8 HB.out hbx XX.out) | (go_at_call 69; refine (refEntry B _ t k _ (HV.out.ext okT HB.out) hlt (by omega) HNS.out).mono ?_; rintro e w1 ⟨rfl, hb1⟩; replace HB := hQq (Ext.trans HB.out hb1); clear hb1; obtain ⟨c0, c1, c2, c3, c4, c5, c6, c7⟩ := cells8 HB.out hbx XX.out) | (go_at_call 70; refine (refKind x _ _ ⟨_, _, rfl⟩).mono ?_; rintro e w1 ⟨rfl, hb1⟩; replace HB := hQq (Ext.trans HB.out hb1); clear hb1; obtain ⟨c0, c1, c2, c3, c4, c5, c6, c7⟩ := cells8 HB.out hbx XX.out) | (go_at_call 71; refine (refCheck _ x.ats _ (HVX.out.ext HB.out) HAM.out).mono ?_; rintro e w1 ⟨rfl, hb1⟩; replace HB := hQq (Ext.trans HB.out hb1); clear hb1) | (go_at_call 72; refine (refClass B _ t k _ (HV.out.ext okT HB.out) hlt (by omega) HMC.out HAT.out).mono ?_; rintro e w1 ⟨rfl, hb1⟩; replace HB := hQq (Ext.trans HB.out hb1); clear hb1))
    go_ret2
    exact ⟨by rw [HR.out.1, HR.out.2, HR2.out]; rfl, HB.out⟩
   have s1 := hx
   clear hx
   by_cases hx : entryE t k = 0
   case neg =>
    have hn : nodeE t k = entryE t k := nodeE_entry s1 HK0.out hx
    have HR := hQq (tree_of (treeT_node (by omega) hlt HOK.out (show nodeE t k ≠ 0 by rw [hn]; exact hx)))
    have HR2 := hQq hn
    have q1 : (entryE t k == 0) = false := nB hx
    have q2 : (entryE t k != 0) = true := bne_iff_ne.2 hx
    clear hx hn
    go_wp2_with (first | (go_at_call 68; refine (refShape B _ t k _ (HV.out.ext okT HB.out) hlt (by omega) HP.out).mono ?_; rintro e w1 ⟨rfl, hb1⟩; replace HB := hQq (Ext.trans HB.out hb1); clear hb1; obtain ⟨c0, c1, c2, c3, c4, c5, c6, c7⟩ := cells8 HB.out hbx XX.out) | (go_at_call 69; refine (refEntry B _ t k _ (HV.out.ext okT HB.out) hlt (by omega) HNS.out).mono ?_; rintro e w1 ⟨rfl, hb1⟩; replace HB := hQq (Ext.trans HB.out hb1); clear hb1; obtain ⟨c0, c1, c2, c3, c4, c5, c6, c7⟩ := cells8 HB.out hbx XX.out) | (go_at_call 70; refine (refKind x _ _ ⟨_, _, rfl⟩).mono ?_; rintro e w1 ⟨rfl, hb1⟩; replace HB := hQq (Ext.trans HB.out hb1); clear hb1; obtain ⟨c0, c1, c2, c3, c4, c5, c6, c7⟩ := cells8 HB.out hbx XX.out) | (go_at_call 71; refine (refCheck _ x.ats _ (HVX.out.ext HB.out) HAM.out).mono ?_; rintro e w1 ⟨rfl, hb1⟩; replace HB := hQq (Ext.trans HB.out hb1); clear hb1) | (go_at_call 72; refine (refClass B _ t k _ (HV.out.ext okT HB.out) hlt (by omega) HMC.out HAT.out).mono ?_; rintro e w1 ⟨rfl, hb1⟩; replace HB := hQq (Ext.trans HB.out hb1); clear hb1))
    go_ret2
    exact ⟨by rw [HR.out.1, HR.out.2, HR2.out]; rfl, HB.out⟩
   have s2 := hx
   clear hx
   have HE2 : Hid (k ≠ 0 -> entryE t k = 0) := hQq (fun _ => s2)
   by_cases hx : kindE x = 0
   case neg =>
    have hn : nodeE t k = kindE x := nodeE_kind HGT.out s1 HE2.out hx
    have HR := hQq (tree_of (treeT_node (by omega) hlt HOK.out (show nodeE t k ≠ 0 by rw [hn]; exact hx)))
    have HR2 := hQq hn
    have q1 : (kindE x == 0) = false := nB hx
    have q2 : (kindE x != 0) = true := bne_iff_ne.2 hx
    clear hx hn
    go_wp2_with (first | (go_at_call 68; refine (refShape B _ t k _ (HV.out.ext okT HB.out) hlt (by omega) HP.out).mono ?_; rintro e w1 ⟨rfl, hb1⟩; replace HB := hQq (Ext.trans HB.out hb1); clear hb1; obtain ⟨c0, c1, c2, c3, c4, c5, c6, c7⟩ := cells8 HB.out hbx XX.out) | (go_at_call 69; refine (refEntry B _ t k _ (HV.out.ext okT HB.out) hlt (by omega) HNS.out).mono ?_; rintro e w1 ⟨rfl, hb1⟩; replace HB := hQq (Ext.trans HB.out hb1); clear hb1; obtain ⟨c0, c1, c2, c3, c4, c5, c6, c7⟩ := cells8 HB.out hbx XX.out) | (go_at_call 70; refine (refKind x _ _ ⟨_, _, rfl⟩).mono ?_; rintro e w1 ⟨rfl, hb1⟩; replace HB := hQq (Ext.trans HB.out hb1); clear hb1; obtain ⟨c0, c1, c2, c3, c4, c5, c6, c7⟩ := cells8 HB.out hbx XX.out) | (go_at_call 71; refine (refCheck _ x.ats _ (HVX.out.ext HB.out) HAM.out).mono ?_; rintro e w1 ⟨rfl, hb1⟩; replace HB := hQq (Ext.trans HB.out hb1); clear hb1) | (go_at_call 72; refine (refClass B _ t k _ (HV.out.ext okT HB.out) hlt (by omega) HMC.out HAT.out).mono ?_; rintro e w1 ⟨rfl, hb1⟩; replace HB := hQq (Ext.trans HB.out hb1); clear hb1))
    go_ret2
    exact ⟨by rw [HR.out.1, HR.out.2, HR2.out]; rfl, HB.out⟩
   have s3 := hx
   clear hx
   by_cases hx : chkE x.ats = 0
   case neg =>
    have hn : nodeE t k = chkE x.ats := nodeE_attrs HGT.out s1 HE2.out s3 hx
    have HR := hQq (tree_of (treeT_node (by omega) hlt HOK.out (show nodeE t k ≠ 0 by rw [hn]; exact hx)))
    have HR2 := hQq hn
    have q1 : (chkE x.ats == 0) = false := nB hx
    have q2 : (chkE x.ats != 0) = true := bne_iff_ne.2 hx
    clear hx hn
    go_wp2_with (first | (go_at_call 68; refine (refShape B _ t k _ (HV.out.ext okT HB.out) hlt (by omega) HP.out).mono ?_; rintro e w1 ⟨rfl, hb1⟩; replace HB := hQq (Ext.trans HB.out hb1); clear hb1; obtain ⟨c0, c1, c2, c3, c4, c5, c6, c7⟩ := cells8 HB.out hbx XX.out) | (go_at_call 69; refine (refEntry B _ t k _ (HV.out.ext okT HB.out) hlt (by omega) HNS.out).mono ?_; rintro e w1 ⟨rfl, hb1⟩; replace HB := hQq (Ext.trans HB.out hb1); clear hb1; obtain ⟨c0, c1, c2, c3, c4, c5, c6, c7⟩ := cells8 HB.out hbx XX.out) | (go_at_call 70; refine (refKind x _ _ ⟨_, _, rfl⟩).mono ?_; rintro e w1 ⟨rfl, hb1⟩; replace HB := hQq (Ext.trans HB.out hb1); clear hb1; obtain ⟨c0, c1, c2, c3, c4, c5, c6, c7⟩ := cells8 HB.out hbx XX.out) | (go_at_call 71; refine (refCheck _ x.ats _ (HVX.out.ext HB.out) HAM.out).mono ?_; rintro e w1 ⟨rfl, hb1⟩; replace HB := hQq (Ext.trans HB.out hb1); clear hb1) | (go_at_call 72; refine (refClass B _ t k _ (HV.out.ext okT HB.out) hlt (by omega) HMC.out HAT.out).mono ?_; rintro e w1 ⟨rfl, hb1⟩; replace HB := hQq (Ext.trans HB.out hb1); clear hb1))
    go_ret2
    exact ⟨by rw [HR.out.1, HR.out.2, HR2.out]; rfl, HB.out⟩
   have s4 := hx
   clear hx
   by_cases hx : clsE t k = 0
   case neg =>
    have hn : nodeE t k = clsE t k := nodeE_cls HGT.out s1 HE2.out s3 s4
    have HR := hQq (tree_of (treeT_node (by omega) hlt HOK.out (show nodeE t k ≠ 0 by rw [hn]; exact hx)))
    have HR2 := hQq hn
    have q1 : (clsE t k == 0) = false := nB hx
    have q2 : (clsE t k != 0) = true := bne_iff_ne.2 hx
    clear hx hn
    go_wp2_with (first | (go_at_call 68; refine (refShape B _ t k _ (HV.out.ext okT HB.out) hlt (by omega) HP.out).mono ?_; rintro e w1 ⟨rfl, hb1⟩; replace HB := hQq (Ext.trans HB.out hb1); clear hb1; obtain ⟨c0, c1, c2, c3, c4, c5, c6, c7⟩ := cells8 HB.out hbx XX.out) | (go_at_call 69; refine (refEntry B _ t k _ (HV.out.ext okT HB.out) hlt (by omega) HNS.out).mono ?_; rintro e w1 ⟨rfl, hb1⟩; replace HB := hQq (Ext.trans HB.out hb1); clear hb1; obtain ⟨c0, c1, c2, c3, c4, c5, c6, c7⟩ := cells8 HB.out hbx XX.out) | (go_at_call 70; refine (refKind x _ _ ⟨_, _, rfl⟩).mono ?_; rintro e w1 ⟨rfl, hb1⟩; replace HB := hQq (Ext.trans HB.out hb1); clear hb1; obtain ⟨c0, c1, c2, c3, c4, c5, c6, c7⟩ := cells8 HB.out hbx XX.out) | (go_at_call 71; refine (refCheck _ x.ats _ (HVX.out.ext HB.out) HAM.out).mono ?_; rintro e w1 ⟨rfl, hb1⟩; replace HB := hQq (Ext.trans HB.out hb1); clear hb1) | (go_at_call 72; refine (refClass B _ t k _ (HV.out.ext okT HB.out) hlt (by omega) HMC.out HAT.out).mono ?_; rintro e w1 ⟨rfl, hb1⟩; replace HB := hQq (Ext.trans HB.out hb1); clear hb1))
    go_ret2
    exact ⟨by rw [HR.out.1, HR.out.2, HR2.out]; rfl, HB.out⟩
   have s5 := hx
   clear hx
   have HN := hQq (HOK.out.step ((nodeE_cls HGT.out s1 HE2.out s3 s4).trans s5))
   go_wp2_with (first | (go_at_call 68; refine (refShape B _ t k _ (HV.out.ext okT HB.out) hlt (by omega) HP.out).mono ?_; rintro e w1 ⟨rfl, hb1⟩; replace HB := hQq (Ext.trans HB.out hb1); clear hb1; obtain ⟨c0, c1, c2, c3, c4, c5, c6, c7⟩ := cells8 HB.out hbx XX.out) | (go_at_call 69; refine (refEntry B _ t k _ (HV.out.ext okT HB.out) hlt (by omega) HNS.out).mono ?_; rintro e w1 ⟨rfl, hb1⟩; replace HB := hQq (Ext.trans HB.out hb1); clear hb1; obtain ⟨c0, c1, c2, c3, c4, c5, c6, c7⟩ := cells8 HB.out hbx XX.out) | (go_at_call 70; refine (refKind x _ _ ⟨_, _, rfl⟩).mono ?_; rintro e w1 ⟨rfl, hb1⟩; replace HB := hQq (Ext.trans HB.out hb1); clear hb1; obtain ⟨c0, c1, c2, c3, c4, c5, c6, c7⟩ := cells8 HB.out hbx XX.out) | (go_at_call 71; refine (refCheck _ x.ats _ (HVX.out.ext HB.out) HAM.out).mono ?_; rintro e w1 ⟨rfl, hb1⟩; replace HB := hQq (Ext.trans HB.out hb1); clear hb1) | (go_at_call 72; refine (refClass B _ t k _ (HV.out.ext okT HB.out) hlt (by omega) HMC.out HAT.out).mono ?_; rintro e w1 ⟨rfl, hb1⟩; replace HB := hQq (Ext.trans HB.out hb1); clear hb1))
   go_roundw
   case rel => exact ⟨_, k + 1, rfl, by omega, by go_num, HN.out, HB.out⟩
   case measure => first | (simp [intOf]; done) | (simp [intOf]; omega)
end Go.Proofs.YtimpejaaeinplaaGreatDoor
