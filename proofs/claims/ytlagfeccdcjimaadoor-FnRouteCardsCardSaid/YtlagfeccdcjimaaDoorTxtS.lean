/- The text of a leg: the reference's. No condition. -/
import Derived.Test.YtlagfeccdcjimaaDoorTxtD
import Derived.Test.YtlagfeccdcjimaaDoorBase2
import Derived.Deep.DeepCutAuto
import Derived.Deep.RegionHeld3
namespace Go.Proofs.YtlagfeccdcjimaaDoor
open Go.RowKit
set_option linter.unusedVariables false
set_option linter.unusedSimpArgs false

theorem first_below {V X w : World} (hb : Below X.heap.size X w) (h : Below V.heap.size V X) : Below V.heap.size V w := ext_trans h hb
set_option maxHeartbeats 8000000 in
set_option maxRecDepth 100000 in
theorem l15Text_any (x : Leg) (h : IsLeg x) (w : World) :
    Calls Tryd.prog 43 #[.agg #[.int .i64 x.way, .int .i64 x.units, .int .i64 x.climb]] w fun e w' => e = .returned (.string (legT x)) ∧ Below w.heap.size w w' := by
  obtain ⟨wy, us, cl⟩ := x
  have hsz := legT_size h
  unfold IsLeg at h
  simp only at h ⊢
  obtain ⟨⟨p1, p2⟩, ⟨p3, p4⟩, ⟨p5, p6⟩⟩ := h
  obtain ⟨u, hu⟩ : ∃ u : Nat, us = u := ⟨us.toNat, by omega⟩
  subst hu
  have hLT : legT ⟨wy, (u : Int), cl⟩ = if 0 < cl then wayB wy ++ dig u ++ ⟨#[43]⟩ ++ digI cl else if cl < 0 then wayB wy ++ dig u ++ digI cl else wayB wy ++ dig u := by unfold legT; rfl
  have HLT := Lib.hid hLT
  obtain ⟨V0, hV0, hC0, hyb, hv, _⟩ := box_world w #[Value.int .i64 wy, .int .i64 (u : Int), .int .i64 cl] 52
  have v0 : World.cell? V0 ⟨w.heap.size, 0, none⟩ = some (.int .i64 wy) := hv 0
  have v1 : World.cell? V0 ⟨w.heap.size, 1, none⟩ = some (.int .i64 (u : Int)) := hv 1
  have v2 : World.cell? V0 ⟨w.heap.size, 2, none⟩ = some (.int .i64 cl) := hv 2
  have HT1 := Lib.hid (fun W => l1Num_any u W (by omega))
  have HT2 := Lib.hid (fun W => l1NumI_any cl ⟨p5, p6⟩ W)
  have hs1 := wayB_size wy
  have hs2 := dig_size u
  have hs3 := digI_size (n := cl) ⟨p5, p6⟩
  have hct1 : ¬ 9223372036854775807 < 1 + (dig u).size := by omega
  have hct2 : ¬ 9223372036854775807 < 2 + (dig u).size := by omega
  clear hv hLT hsz
  go_enter Tryd.func43, Tryd.ntmps43
  go_upto_region 1 with fail
  clear hV0
  go_cut [3] (fun v wx => v = .string (wayB wy ++ dig u) ∧ Below V0.heap.size V0 wx)
  case first =>
    have hw : wy = 0 ∨ wy = 1 ∨ wy = 2 ∨ wy = 3 ∨ wy = 4 ∨ wy = 5 ∨ wy = 6 ∨ wy = 7 := by omega
    rcases hw with rfl | rfl | rfl | rfl | rfl | rfl | rfl | rfl
    · have HSK := Lib.hid (fun (w' : World) (hb : Below (World.heap V0).size V0 w') => (show World.cell? w' ⟨w.heap.size, 0, none⟩ = some (.int .i64 0) ∧ World.cell? w' ⟨w.heap.size, 1, none⟩ = some (.int .i64 (u : Int)) ∧ Below (World.heap V0).size V0 w' from ⟨(hb.cell (p := ⟨w.heap.size, 0, none⟩) hyb).trans v0, (hb.cell (p := ⟨w.heap.size, 1, none⟩) hyb).trans v1, hb⟩))
      refine wp_region_held_drew (S := (fun w' => World.cell? w' ⟨w.heap.size, 0, none⟩ = some (.int .i64 0) ∧ World.cell? w' ⟨w.heap.size, 1, none⟩ = some (.int .i64 (u : Int)) ∧ Below (World.heap V0).size V0 w')) (by kernel_rfl) ?hSa0x0 (fun hHeld => ?resta0x0)
      case hSa0x0 => ((try dsimp only); first | with_reducible exact hHeld | with_reducible exact HSK.out _ (ext_drew _) | with_reducible exact HSK.out _ (ext_trans (ext_alloc _ _) (ext_drew _)) | with_reducible exact HSK.out _ (ext_trans (ext_drew _) (ext_alloc _ _)) | with_reducible exact HSK.out _ hx5 | with_reducible exact HSK.out _ (ext_trans hx5 (ext_alloc _ _)))
      case resta0x0 =>
        refine wpAnyH_take (i := 1) (oi := _) (v := ?va0x1) rfl (by kernel_rfl) (by kernel_rfl) (by kernel_rfl) (fun _ _ _ h => h) (Or.inl ⟨by rfl, ?hya0x1⟩) (by assumption) ?resta0x1
        case hya0x1 => ((intro w hSw; (try dsimp only at hSw); go_simp) <;> (with_reducible rfl))
        case resta0x1 =>
         try simp only [Act.put, List.setIfInBounds_toArray, List.set_cons_zero, List.set_cons_succ]
         refine wpAnyH_take (i := 2) (oi := _) (v := ?va0x2) rfl (by kernel_rfl) (by kernel_rfl) (by kernel_rfl) (fun _ _ _ h => h) (Or.inl ⟨by rfl, ?hya0x2⟩) (by assumption) ?resta0x2
         case hya0x2 => ((intro w hSw; (try dsimp only at hSw); go_simp) <;> (with_reducible rfl))
         case resta0x2 =>
          try simp only [Act.put, List.setIfInBounds_toArray, List.set_cons_zero, List.set_cons_succ]
          refine wpAnyH_take (i := 5) (oi := _) (v := ?va0x3) rfl (by kernel_rfl) (by kernel_rfl) (by kernel_rfl) (fun _ _ _ h => h) (Or.inl ⟨by rfl, ?hya0x3⟩) (by assumption) ?resta0x3
          case hya0x3 => ((intro w hSw; (try dsimp only at hSw); go_simp) <;> (with_reducible rfl))
          case resta0x3 =>
           try simp only [Act.put, List.setIfInBounds_toArray, List.set_cons_zero, List.set_cons_succ]
           refine wpAnyH_take (i := 6) (oi := _) (v := ?va0x4) rfl (by kernel_rfl) (by kernel_rfl) (by kernel_rfl) (fun _ _ _ h => h) (Or.inl ⟨by rfl, ?hya0x4⟩) (by assumption) ?resta0x4
           case hya0x4 => ((intro w hSw; (try dsimp only at hSw); go_simp) <;> (with_reducible rfl))
           case resta0x4 =>
            try simp only [Act.put, List.setIfInBounds_toArray, List.set_cons_zero, List.set_cons_succ]
            refine wpAnyH_ready (rs := [0, 7]) (by kernel_rfl) (by simp) ?_
            refine AllReadyH.cons (o := _) rfl (fun K hK => ?sta0x5) ?morea0x5
            case sta0x5 =>
              go_simp
              refine hK.out _ _ ?hSa0x5 (fun hHeld => ?resta0x5)
              case hSa0x5 => ((try dsimp only); first | with_reducible exact hHeld | with_reducible exact HSK.out _ (ext_drew _) | with_reducible exact HSK.out _ (ext_trans (ext_alloc _ _) (ext_drew _)) | with_reducible exact HSK.out _ (ext_trans (ext_drew _) (ext_alloc _ _)) | with_reducible exact HSK.out _ hx5 | with_reducible exact HSK.out _ (ext_trans hx5 (ext_alloc _ _)))
              case resta0x5 =>
                clear hK K
                try simp only [Act.put, List.setIfInBounds_toArray, List.set_cons_zero, List.set_cons_succ]
                refine wpAnyH_ready (rs := [3, 7]) (by kernel_rfl) (by simp) ?_
                refine AllReadyH.cons (o := _) rfl (fun K hK => ?sta0x6) ?morea0x6
                case sta0x6 =>
                  go_simp
                  refine hK.out _ _ ?hSa0x6 (fun hHeld => ?resta0x6)
                  case hSa0x6 => ((try dsimp only); first | with_reducible exact hHeld | with_reducible exact HSK.out _ (ext_drew _) | with_reducible exact HSK.out _ (ext_trans (ext_alloc _ _) (ext_drew _)) | with_reducible exact HSK.out _ (ext_trans (ext_drew _) (ext_alloc _ _)) | with_reducible exact HSK.out _ hx5 | with_reducible exact HSK.out _ (ext_trans hx5 (ext_alloc _ _)))
                  case resta0x6 =>
                    clear hK K
                    try simp only [Act.put, List.setIfInBounds_toArray, List.set_cons_zero, List.set_cons_succ]
                    refine wpAnyH_ready (rs := [4, 7]) (by kernel_rfl) (by simp) ?_
                    refine AllReadyH.cons (o := _) rfl (fun K hK => ?sta0x7) ?morea0x7
                    case sta0x7 =>
                      go_simp
                      refine hK.out _ _ ?hSa0x7 (fun hHeld => ?resta0x7)
                      case hSa0x7 => ((try dsimp only); first | with_reducible exact hHeld | with_reducible exact HSK.out _ (ext_drew _) | with_reducible exact HSK.out _ (ext_trans (ext_alloc _ _) (ext_drew _)) | with_reducible exact HSK.out _ (ext_trans (ext_drew _) (ext_alloc _ _)) | with_reducible exact HSK.out _ hx5 | with_reducible exact HSK.out _ (ext_trans hx5 (ext_alloc _ _)))
                      case resta0x7 =>
                        clear hK K
                        try simp only [Act.put, List.setIfInBounds_toArray, List.set_cons_zero, List.set_cons_succ]
                        refine wpAnyH_ready (rs := [7]) (by kernel_rfl) (by simp) ?_
                        refine AllReadyH.cons (o := _) rfl (fun K hK => ?sta0x8) ?morea0x8
                        case sta0x8 =>
                          go_simp
                          go_at_call 60
                          (with_reducible refine (HT1.out _).mono ?_)
                          rintro e w5 ⟨rfl, hb5⟩
                          have hx5 : Below (World.heap V0).size V0 w5 := first_below hb5 (by (first | with_reducible exact ext_drew _ | with_reducible exact ext_trans (ext_alloc _ _) (ext_drew _) | with_reducible exact ext_trans (ext_drew _) (ext_alloc _ _)))
                          have hlc : World.cell? w5 ⟨(World.heap V0).size, 0, none⟩ = some (.string ⟨#[110]⟩) := (hb5.cell (p := ⟨(World.heap V0).size, 0, none⟩) (by simp)).trans (by simp)
                          refine hK.out _ _ ?hSa0x8 (fun hHeld => ?resta0x8)
                          case hSa0x8 => ((try dsimp only); first | with_reducible exact hHeld | with_reducible exact HSK.out _ (ext_drew _) | with_reducible exact HSK.out _ (ext_trans (ext_alloc _ _) (ext_drew _)) | with_reducible exact HSK.out _ (ext_trans (ext_drew _) (ext_alloc _ _)) | with_reducible exact HSK.out _ hx5 | with_reducible exact HSK.out _ (ext_trans hx5 (ext_alloc _ _)))
                          case resta0x8 =>
                            clear hK K
                            try simp only [Act.put, List.setIfInBounds_toArray, List.set_cons_zero, List.set_cons_succ]
                            refine wpAnyH_ready (rs := [8]) (by kernel_rfl) (by simp) ?_
                            refine AllReadyH.cons (o := _) rfl (fun K hK => ?sta0x9) ?morea0x9
                            case sta0x9 =>
                              go_simp
                              refine hK.out _ _ ?hSa0x9 (fun hHeld => ?resta0x9)
                              case hSa0x9 => ((try dsimp only); first | with_reducible exact hHeld | with_reducible exact HSK.out _ (ext_drew _) | with_reducible exact HSK.out _ (ext_trans (ext_alloc _ _) (ext_drew _)) | with_reducible exact HSK.out _ (ext_trans (ext_drew _) (ext_alloc _ _)) | with_reducible exact HSK.out _ hx5 | with_reducible exact HSK.out _ (ext_trans hx5 (ext_alloc _ _)))
                              case resta0x9 =>
                                clear hK K
                                try simp only [Act.put, List.setIfInBounds_toArray, List.set_cons_zero, List.set_cons_succ]
                                refine wpAnyH_ready (rs := [9]) (by kernel_rfl) (by simp) ?_
                                refine AllReadyH.cons (o := _) rfl (fun K hK => ?sta0x10) ?morea0x10
                                case sta0x10 =>
                                  go_simp
                                  refine hK.out _ _ ?hSa0x10 (fun hHeld => ?resta0x10)
                                  case hSa0x10 => ((try dsimp only); first | with_reducible exact hHeld | with_reducible exact HSK.out _ (ext_drew _) | with_reducible exact HSK.out _ (ext_trans (ext_alloc _ _) (ext_drew _)) | with_reducible exact HSK.out _ (ext_trans (ext_drew _) (ext_alloc _ _)) | with_reducible exact HSK.out _ hx5 | with_reducible exact HSK.out _ (ext_trans hx5 (ext_alloc _ _)))
                                  case resta0x10 =>
                                    clear hK K
                                    try simp only [Act.put, List.setIfInBounds_toArray, List.set_cons_zero, List.set_cons_succ]
                                    refine wpAnyH_done (by kernel_rfl) ?_ _
                                    go_wp2
                                    go_meet
                                    exact ⟨rfl, by first | exact hx5 | (exact hHeld.2.2)⟩
                                case morea0x10 =>
                                 exact AllReadyH.nil
                            case morea0x9 =>
                             exact AllReadyH.nil
                        case morea0x8 =>
                         exact AllReadyH.nil
                    case morea0x7 =>
                     refine AllReadyH.cons (o := _) rfl (fun K hK => ?sta0x11) ?morea0x11
                     case sta0x11 =>
                       go_simp
                       go_at_call 60
                       (with_reducible refine (HT1.out _).mono ?_)
                       rintro e w5 ⟨rfl, hb5⟩
                       have hx5 : Below (World.heap V0).size V0 w5 := first_below hb5 (by (first | with_reducible exact ext_drew _ | with_reducible exact ext_trans (ext_alloc _ _) (ext_drew _) | with_reducible exact ext_trans (ext_drew _) (ext_alloc _ _)))
                       have hlc : World.cell? w5 ⟨(World.heap V0).size, 0, none⟩ = some (.string ⟨#[110]⟩) := (hb5.cell (p := ⟨(World.heap V0).size, 0, none⟩) (by simp)).trans (by simp)
                       refine hK.out _ _ ?hSa0x11 (fun hHeld => ?resta0x11)
                       case hSa0x11 => ((try dsimp only); first | with_reducible exact hHeld | with_reducible exact HSK.out _ (ext_drew _) | with_reducible exact HSK.out _ (ext_trans (ext_alloc _ _) (ext_drew _)) | with_reducible exact HSK.out _ (ext_trans (ext_drew _) (ext_alloc _ _)) | with_reducible exact HSK.out _ hx5 | with_reducible exact HSK.out _ (ext_trans hx5 (ext_alloc _ _)))
                       case resta0x11 =>
                         clear hK K
                         try simp only [Act.put, List.setIfInBounds_toArray, List.set_cons_zero, List.set_cons_succ]
                         refine wpAnyH_ready (rs := [4]) (by kernel_rfl) (by simp) ?_
                         refine AllReadyH.cons (o := _) rfl (fun K hK => ?sta0x12) ?morea0x12
                         case sta0x12 =>
                           go_simp
                           refine hK.out _ _ ?hSa0x12 (fun hHeld => ?resta0x12)
                           case hSa0x12 => ((try dsimp only); first | with_reducible exact hHeld | with_reducible exact HSK.out _ (ext_drew _) | with_reducible exact HSK.out _ (ext_trans (ext_alloc _ _) (ext_drew _)) | with_reducible exact HSK.out _ (ext_trans (ext_drew _) (ext_alloc _ _)) | with_reducible exact HSK.out _ hx5 | with_reducible exact HSK.out _ (ext_trans hx5 (ext_alloc _ _)))
                           case resta0x12 =>
                             clear hK K
                             try simp only [Act.put, List.setIfInBounds_toArray, List.set_cons_zero, List.set_cons_succ]
                             refine wpAnyH_ready (rs := [8]) (by kernel_rfl) (by simp) ?_
                             refine AllReadyH.cons (o := _) rfl (fun K hK => ?sta0x13) ?morea0x13
                             case sta0x13 =>
                               go_simp
                               refine hK.out _ _ ?hSa0x13 (fun hHeld => ?resta0x13)
                               case hSa0x13 => ((try dsimp only); first | with_reducible exact hHeld | with_reducible exact HSK.out _ (ext_drew _) | with_reducible exact HSK.out _ (ext_trans (ext_alloc _ _) (ext_drew _)) | with_reducible exact HSK.out _ (ext_trans (ext_drew _) (ext_alloc _ _)) | with_reducible exact HSK.out _ hx5 | with_reducible exact HSK.out _ (ext_trans hx5 (ext_alloc _ _)))
                               case resta0x13 =>
                                 clear hK K
                                 try simp only [Act.put, List.setIfInBounds_toArray, List.set_cons_zero, List.set_cons_succ]
                                 refine wpAnyH_ready (rs := [9]) (by kernel_rfl) (by simp) ?_
                                 refine AllReadyH.cons (o := _) rfl (fun K hK => ?sta0x14) ?morea0x14
                                 case sta0x14 =>
                                   go_simp
                                   refine hK.out _ _ ?hSa0x14 (fun hHeld => ?resta0x14)
                                   case hSa0x14 => ((try dsimp only); first | with_reducible exact hHeld | with_reducible exact HSK.out _ (ext_drew _) | with_reducible exact HSK.out _ (ext_trans (ext_alloc _ _) (ext_drew _)) | with_reducible exact HSK.out _ (ext_trans (ext_drew _) (ext_alloc _ _)) | with_reducible exact HSK.out _ hx5 | with_reducible exact HSK.out _ (ext_trans hx5 (ext_alloc _ _)))
                                   case resta0x14 =>
                                     clear hK K
                                     try simp only [Act.put, List.setIfInBounds_toArray, List.set_cons_zero, List.set_cons_succ]
                                     refine wpAnyH_done (by kernel_rfl) ?_ _
                                     go_wp2
                                     go_meet
                                     exact ⟨rfl, by first | exact hx5 | (exact hHeld.2.2)⟩
                                 case morea0x14 =>
                                  exact AllReadyH.nil
                             case morea0x13 =>
                              exact AllReadyH.nil
                         case morea0x12 =>
                          exact AllReadyH.nil
                     case morea0x11 =>
                      exact AllReadyH.nil
                case morea0x6 =>
                 refine AllReadyH.cons (o := _) rfl (fun K hK => ?sta0x15) ?morea0x15
                 case sta0x15 =>
                   go_simp
                   go_at_call 60
                   (with_reducible refine (HT1.out _).mono ?_)
                   rintro e w5 ⟨rfl, hb5⟩
                   have hx5 : Below (World.heap V0).size V0 w5 := first_below hb5 (by (first | with_reducible exact ext_drew _ | with_reducible exact ext_trans (ext_alloc _ _) (ext_drew _) | with_reducible exact ext_trans (ext_drew _) (ext_alloc _ _)))
                   have hlc : World.cell? w5 ⟨(World.heap V0).size, 0, none⟩ = some (.string ⟨#[110]⟩) := (hb5.cell (p := ⟨(World.heap V0).size, 0, none⟩) (by simp)).trans (by simp)
                   refine hK.out _ _ ?hSa0x15 (fun hHeld => ?resta0x15)
                   case hSa0x15 => ((try dsimp only); first | with_reducible exact hHeld | with_reducible exact HSK.out _ (ext_drew _) | with_reducible exact HSK.out _ (ext_trans (ext_alloc _ _) (ext_drew _)) | with_reducible exact HSK.out _ (ext_trans (ext_drew _) (ext_alloc _ _)) | with_reducible exact HSK.out _ hx5 | with_reducible exact HSK.out _ (ext_trans hx5 (ext_alloc _ _)))
                   case resta0x15 =>
                     clear hK K
                     try simp only [Act.put, List.setIfInBounds_toArray, List.set_cons_zero, List.set_cons_succ]
                     refine wpAnyH_ready (rs := [3]) (by kernel_rfl) (by simp) ?_
                     refine AllReadyH.cons (o := _) rfl (fun K hK => ?sta0x16) ?morea0x16
                     case sta0x16 =>
                       go_simp
                       refine hK.out _ _ ?hSa0x16 (fun hHeld => ?resta0x16)
                       case hSa0x16 => ((try dsimp only); first | with_reducible exact hHeld | with_reducible exact HSK.out _ (ext_drew _) | with_reducible exact HSK.out _ (ext_trans (ext_alloc _ _) (ext_drew _)) | with_reducible exact HSK.out _ (ext_trans (ext_drew _) (ext_alloc _ _)) | with_reducible exact HSK.out _ hx5 | with_reducible exact HSK.out _ (ext_trans hx5 (ext_alloc _ _)))
                       case resta0x16 =>
                         clear hK K
                         try simp only [Act.put, List.setIfInBounds_toArray, List.set_cons_zero, List.set_cons_succ]
                         refine wpAnyH_ready (rs := [4]) (by kernel_rfl) (by simp) ?_
                         refine AllReadyH.cons (o := _) rfl (fun K hK => ?sta0x17) ?morea0x17
                         case sta0x17 =>
                           go_simp
                           refine hK.out _ _ ?hSa0x17 (fun hHeld => ?resta0x17)
                           case hSa0x17 => ((try dsimp only); first | with_reducible exact hHeld | with_reducible exact HSK.out _ (ext_drew _) | with_reducible exact HSK.out _ (ext_trans (ext_alloc _ _) (ext_drew _)) | with_reducible exact HSK.out _ (ext_trans (ext_drew _) (ext_alloc _ _)) | with_reducible exact HSK.out _ hx5 | with_reducible exact HSK.out _ (ext_trans hx5 (ext_alloc _ _)))
                           case resta0x17 =>
                             clear hK K
                             try simp only [Act.put, List.setIfInBounds_toArray, List.set_cons_zero, List.set_cons_succ]
                             refine wpAnyH_ready (rs := [8]) (by kernel_rfl) (by simp) ?_
                             refine AllReadyH.cons (o := _) rfl (fun K hK => ?sta0x18) ?morea0x18
                             case sta0x18 =>
                               go_simp
                               refine hK.out _ _ ?hSa0x18 (fun hHeld => ?resta0x18)
                               case hSa0x18 => ((try dsimp only); first | with_reducible exact hHeld | with_reducible exact HSK.out _ (ext_drew _) | with_reducible exact HSK.out _ (ext_trans (ext_alloc _ _) (ext_drew _)) | with_reducible exact HSK.out _ (ext_trans (ext_drew _) (ext_alloc _ _)) | with_reducible exact HSK.out _ hx5 | with_reducible exact HSK.out _ (ext_trans hx5 (ext_alloc _ _)))
                               case resta0x18 =>
                                 clear hK K
                                 try simp only [Act.put, List.setIfInBounds_toArray, List.set_cons_zero, List.set_cons_succ]
                                 refine wpAnyH_ready (rs := [9]) (by kernel_rfl) (by simp) ?_
                                 refine AllReadyH.cons (o := _) rfl (fun K hK => ?sta0x19) ?morea0x19
                                 case sta0x19 =>
                                   go_simp
                                   refine hK.out _ _ ?hSa0x19 (fun hHeld => ?resta0x19)
                                   case hSa0x19 => ((try dsimp only); first | with_reducible exact hHeld | with_reducible exact HSK.out _ (ext_drew _) | with_reducible exact HSK.out _ (ext_trans (ext_alloc _ _) (ext_drew _)) | with_reducible exact HSK.out _ (ext_trans (ext_drew _) (ext_alloc _ _)) | with_reducible exact HSK.out _ hx5 | with_reducible exact HSK.out _ (ext_trans hx5 (ext_alloc _ _)))
                                   case resta0x19 =>
                                     clear hK K
                                     try simp only [Act.put, List.setIfInBounds_toArray, List.set_cons_zero, List.set_cons_succ]
                                     refine wpAnyH_done (by kernel_rfl) ?_ _
                                     go_wp2
                                     go_meet
                                     exact ⟨rfl, by first | exact hx5 | (exact hHeld.2.2)⟩
                                 case morea0x19 =>
                                  exact AllReadyH.nil
                             case morea0x18 =>
                              exact AllReadyH.nil
                         case morea0x17 =>
                          exact AllReadyH.nil
                     case morea0x16 =>
                      exact AllReadyH.nil
                 case morea0x15 =>
                  exact AllReadyH.nil
            case morea0x5 =>
             refine AllReadyH.cons (o := _) rfl (fun K hK => ?sta0x20) ?morea0x20
             case sta0x20 =>
               go_simp
               go_at_call 60
               (with_reducible refine (HT1.out _).mono ?_)
               rintro e w5 ⟨rfl, hb5⟩
               have hx5 : Below (World.heap V0).size V0 w5 := first_below hb5 (by (first | with_reducible exact ext_drew _ | with_reducible exact ext_trans (ext_alloc _ _) (ext_drew _) | with_reducible exact ext_trans (ext_drew _) (ext_alloc _ _)))
               refine hK.out _ _ ?hSa0x20 (fun hHeld => ?resta0x20)
               case hSa0x20 => ((try dsimp only); first | with_reducible exact hHeld | with_reducible exact HSK.out _ (ext_drew _) | with_reducible exact HSK.out _ (ext_trans (ext_alloc _ _) (ext_drew _)) | with_reducible exact HSK.out _ (ext_trans (ext_drew _) (ext_alloc _ _)) | with_reducible exact HSK.out _ hx5 | with_reducible exact HSK.out _ (ext_trans hx5 (ext_alloc _ _)))
               case resta0x20 =>
                 clear hK K
                 try simp only [Act.put, List.setIfInBounds_toArray, List.set_cons_zero, List.set_cons_succ]
                 refine wpAnyH_ready (rs := [0]) (by kernel_rfl) (by simp) ?_
                 refine AllReadyH.cons (o := _) rfl (fun K hK => ?sta0x21) ?morea0x21
                 case sta0x21 =>
                   go_simp
                   refine hK.out _ _ ?hSa0x21 (fun hHeld => ?resta0x21)
                   case hSa0x21 => ((try dsimp only); first | with_reducible exact hHeld | with_reducible exact HSK.out _ (ext_drew _) | with_reducible exact HSK.out _ (ext_trans (ext_alloc _ _) (ext_drew _)) | with_reducible exact HSK.out _ (ext_trans (ext_drew _) (ext_alloc _ _)) | with_reducible exact HSK.out _ hx5 | with_reducible exact HSK.out _ (ext_trans hx5 (ext_alloc _ _)))
                   case resta0x21 =>
                     clear hK K
                     try simp only [Act.put, List.setIfInBounds_toArray, List.set_cons_zero, List.set_cons_succ]
                     refine wpAnyH_ready (rs := [3]) (by kernel_rfl) (by simp) ?_
                     refine AllReadyH.cons (o := _) rfl (fun K hK => ?sta0x22) ?morea0x22
                     case sta0x22 =>
                       go_simp
                       refine hK.out _ _ ?hSa0x22 (fun hHeld => ?resta0x22)
                       case hSa0x22 => ((try dsimp only); first | with_reducible exact hHeld | with_reducible exact HSK.out _ (ext_drew _) | with_reducible exact HSK.out _ (ext_trans (ext_alloc _ _) (ext_drew _)) | with_reducible exact HSK.out _ (ext_trans (ext_drew _) (ext_alloc _ _)) | with_reducible exact HSK.out _ hx5 | with_reducible exact HSK.out _ (ext_trans hx5 (ext_alloc _ _)))
                       case resta0x22 =>
                         clear hK K
                         try simp only [Act.put, List.setIfInBounds_toArray, List.set_cons_zero, List.set_cons_succ]
                         refine wpAnyH_ready (rs := [4]) (by kernel_rfl) (by simp) ?_
                         refine AllReadyH.cons (o := _) rfl (fun K hK => ?sta0x23) ?morea0x23
                         case sta0x23 =>
                           go_simp
                           refine hK.out _ _ ?hSa0x23 (fun hHeld => ?resta0x23)
                           case hSa0x23 => ((try dsimp only); first | with_reducible exact hHeld | with_reducible exact HSK.out _ (ext_drew _) | with_reducible exact HSK.out _ (ext_trans (ext_alloc _ _) (ext_drew _)) | with_reducible exact HSK.out _ (ext_trans (ext_drew _) (ext_alloc _ _)) | with_reducible exact HSK.out _ hx5 | with_reducible exact HSK.out _ (ext_trans hx5 (ext_alloc _ _)))
                           case resta0x23 =>
                             clear hK K
                             try simp only [Act.put, List.setIfInBounds_toArray, List.set_cons_zero, List.set_cons_succ]
                             refine wpAnyH_ready (rs := [8]) (by kernel_rfl) (by simp) ?_
                             refine AllReadyH.cons (o := _) rfl (fun K hK => ?sta0x24) ?morea0x24
                             case sta0x24 =>
                               go_simp
                               refine hK.out _ _ ?hSa0x24 (fun hHeld => ?resta0x24)
                               case hSa0x24 => ((try dsimp only); first | with_reducible exact hHeld | with_reducible exact HSK.out _ (ext_drew _) | with_reducible exact HSK.out _ (ext_trans (ext_alloc _ _) (ext_drew _)) | with_reducible exact HSK.out _ (ext_trans (ext_drew _) (ext_alloc _ _)) | with_reducible exact HSK.out _ hx5 | with_reducible exact HSK.out _ (ext_trans hx5 (ext_alloc _ _)))
                               case resta0x24 =>
                                 clear hK K
                                 try simp only [Act.put, List.setIfInBounds_toArray, List.set_cons_zero, List.set_cons_succ]
                                 refine wpAnyH_ready (rs := [9]) (by kernel_rfl) (by simp) ?_
                                 refine AllReadyH.cons (o := _) rfl (fun K hK => ?sta0x25) ?morea0x25
                                 case sta0x25 =>
                                   go_simp
                                   refine hK.out _ _ ?hSa0x25 (fun hHeld => ?resta0x25)
                                   case hSa0x25 => ((try dsimp only); first | with_reducible exact hHeld | with_reducible exact HSK.out _ (ext_drew _) | with_reducible exact HSK.out _ (ext_trans (ext_alloc _ _) (ext_drew _)) | with_reducible exact HSK.out _ (ext_trans (ext_drew _) (ext_alloc _ _)) | with_reducible exact HSK.out _ hx5 | with_reducible exact HSK.out _ (ext_trans hx5 (ext_alloc _ _)))
                                   case resta0x25 =>
                                     clear hK K
                                     try simp only [Act.put, List.setIfInBounds_toArray, List.set_cons_zero, List.set_cons_succ]
                                     refine wpAnyH_done (by kernel_rfl) ?_ _
                                     go_wp2
                                     go_meet
                                     exact ⟨rfl, by first | exact hx5 | (exact hHeld.2.2)⟩
                                 case morea0x25 =>
                                  exact AllReadyH.nil
                             case morea0x24 =>
                              exact AllReadyH.nil
                         case morea0x23 =>
                          exact AllReadyH.nil
                     case morea0x22 =>
                      exact AllReadyH.nil
                 case morea0x21 =>
                  exact AllReadyH.nil
             case morea0x20 =>
              exact AllReadyH.nil
    · have HSK := Lib.hid (fun (w' : World) (hb : Below (World.heap V0).size V0 w') => (show World.cell? w' ⟨w.heap.size, 0, none⟩ = some (.int .i64 1) ∧ World.cell? w' ⟨w.heap.size, 1, none⟩ = some (.int .i64 (u : Int)) ∧ Below (World.heap V0).size V0 w' from ⟨(hb.cell (p := ⟨w.heap.size, 0, none⟩) hyb).trans v0, (hb.cell (p := ⟨w.heap.size, 1, none⟩) hyb).trans v1, hb⟩))
      refine wp_region_held_drew (S := (fun w' => World.cell? w' ⟨w.heap.size, 0, none⟩ = some (.int .i64 1) ∧ World.cell? w' ⟨w.heap.size, 1, none⟩ = some (.int .i64 (u : Int)) ∧ Below (World.heap V0).size V0 w')) (by kernel_rfl) ?hSa1x0 (fun hHeld => ?resta1x0)
      case hSa1x0 => ((try dsimp only); first | with_reducible exact hHeld | with_reducible exact HSK.out _ (ext_drew _) | with_reducible exact HSK.out _ (ext_trans (ext_alloc _ _) (ext_drew _)) | with_reducible exact HSK.out _ (ext_trans (ext_drew _) (ext_alloc _ _)) | with_reducible exact HSK.out _ hx5 | with_reducible exact HSK.out _ (ext_trans hx5 (ext_alloc _ _)))
      case resta1x0 =>
        refine wpAnyH_take (i := 1) (oi := _) (v := ?va1x1) rfl (by kernel_rfl) (by kernel_rfl) (by kernel_rfl) (fun _ _ _ h => h) (Or.inl ⟨by rfl, ?hya1x1⟩) (by assumption) ?resta1x1
        case hya1x1 => ((intro w hSw; (try dsimp only at hSw); go_simp) <;> (with_reducible rfl))
        case resta1x1 =>
         try simp only [Act.put, List.setIfInBounds_toArray, List.set_cons_zero, List.set_cons_succ]
         refine wpAnyH_take (i := 2) (oi := _) (v := ?va1x2) rfl (by kernel_rfl) (by kernel_rfl) (by kernel_rfl) (fun _ _ _ h => h) (Or.inl ⟨by rfl, ?hya1x2⟩) (by assumption) ?resta1x2
         case hya1x2 => ((intro w hSw; (try dsimp only at hSw); go_simp) <;> (with_reducible rfl))
         case resta1x2 =>
          try simp only [Act.put, List.setIfInBounds_toArray, List.set_cons_zero, List.set_cons_succ]
          refine wpAnyH_take (i := 5) (oi := _) (v := ?va1x3) rfl (by kernel_rfl) (by kernel_rfl) (by kernel_rfl) (fun _ _ _ h => h) (Or.inl ⟨by rfl, ?hya1x3⟩) (by assumption) ?resta1x3
          case hya1x3 => ((intro w hSw; (try dsimp only at hSw); go_simp) <;> (with_reducible rfl))
          case resta1x3 =>
           try simp only [Act.put, List.setIfInBounds_toArray, List.set_cons_zero, List.set_cons_succ]
           refine wpAnyH_take (i := 6) (oi := _) (v := ?va1x4) rfl (by kernel_rfl) (by kernel_rfl) (by kernel_rfl) (fun _ _ _ h => h) (Or.inl ⟨by rfl, ?hya1x4⟩) (by assumption) ?resta1x4
           case hya1x4 => ((intro w hSw; (try dsimp only at hSw); go_simp) <;> (with_reducible rfl))
           case resta1x4 =>
            try simp only [Act.put, List.setIfInBounds_toArray, List.set_cons_zero, List.set_cons_succ]
            refine wpAnyH_ready (rs := [0, 7]) (by kernel_rfl) (by simp) ?_
            refine AllReadyH.cons (o := _) rfl (fun K hK => ?sta1x5) ?morea1x5
            case sta1x5 =>
              go_simp
              refine hK.out _ _ ?hSa1x5 (fun hHeld => ?resta1x5)
              case hSa1x5 => ((try dsimp only); first | with_reducible exact hHeld | with_reducible exact HSK.out _ (ext_drew _) | with_reducible exact HSK.out _ (ext_trans (ext_alloc _ _) (ext_drew _)) | with_reducible exact HSK.out _ (ext_trans (ext_drew _) (ext_alloc _ _)) | with_reducible exact HSK.out _ hx5 | with_reducible exact HSK.out _ (ext_trans hx5 (ext_alloc _ _)))
              case resta1x5 =>
                clear hK K
                try simp only [Act.put, List.setIfInBounds_toArray, List.set_cons_zero, List.set_cons_succ]
                refine wpAnyH_ready (rs := [3, 7]) (by kernel_rfl) (by simp) ?_
                refine AllReadyH.cons (o := _) rfl (fun K hK => ?sta1x6) ?morea1x6
                case sta1x6 =>
                  go_simp
                  refine hK.out _ _ ?hSa1x6 (fun hHeld => ?resta1x6)
                  case hSa1x6 => ((try dsimp only); first | with_reducible exact hHeld | with_reducible exact HSK.out _ (ext_drew _) | with_reducible exact HSK.out _ (ext_trans (ext_alloc _ _) (ext_drew _)) | with_reducible exact HSK.out _ (ext_trans (ext_drew _) (ext_alloc _ _)) | with_reducible exact HSK.out _ hx5 | with_reducible exact HSK.out _ (ext_trans hx5 (ext_alloc _ _)))
                  case resta1x6 =>
                    clear hK K
                    try simp only [Act.put, List.setIfInBounds_toArray, List.set_cons_zero, List.set_cons_succ]
                    refine wpAnyH_ready (rs := [4, 7]) (by kernel_rfl) (by simp) ?_
                    refine AllReadyH.cons (o := _) rfl (fun K hK => ?sta1x7) ?morea1x7
                    case sta1x7 =>
                      go_simp
                      refine hK.out _ _ ?hSa1x7 (fun hHeld => ?resta1x7)
                      case hSa1x7 => ((try dsimp only); first | with_reducible exact hHeld | with_reducible exact HSK.out _ (ext_drew _) | with_reducible exact HSK.out _ (ext_trans (ext_alloc _ _) (ext_drew _)) | with_reducible exact HSK.out _ (ext_trans (ext_drew _) (ext_alloc _ _)) | with_reducible exact HSK.out _ hx5 | with_reducible exact HSK.out _ (ext_trans hx5 (ext_alloc _ _)))
                      case resta1x7 =>
                        clear hK K
                        try simp only [Act.put, List.setIfInBounds_toArray, List.set_cons_zero, List.set_cons_succ]
                        refine wpAnyH_ready (rs := [7]) (by kernel_rfl) (by simp) ?_
                        refine AllReadyH.cons (o := _) rfl (fun K hK => ?sta1x8) ?morea1x8
                        case sta1x8 =>
                          go_simp
                          go_at_call 60
                          (with_reducible refine (HT1.out _).mono ?_)
                          rintro e w5 ⟨rfl, hb5⟩
                          have hx5 : Below (World.heap V0).size V0 w5 := first_below hb5 (by (first | with_reducible exact ext_drew _ | with_reducible exact ext_trans (ext_alloc _ _) (ext_drew _) | with_reducible exact ext_trans (ext_drew _) (ext_alloc _ _)))
                          have hlc : World.cell? w5 ⟨(World.heap V0).size, 1, none⟩ = some (.string ⟨#[110, 101]⟩) := (hb5.cell (p := ⟨(World.heap V0).size, 1, none⟩) (by simp)).trans (by simp)
                          refine hK.out _ _ ?hSa1x8 (fun hHeld => ?resta1x8)
                          case hSa1x8 => ((try dsimp only); first | with_reducible exact hHeld | with_reducible exact HSK.out _ (ext_drew _) | with_reducible exact HSK.out _ (ext_trans (ext_alloc _ _) (ext_drew _)) | with_reducible exact HSK.out _ (ext_trans (ext_drew _) (ext_alloc _ _)) | with_reducible exact HSK.out _ hx5 | with_reducible exact HSK.out _ (ext_trans hx5 (ext_alloc _ _)))
                          case resta1x8 =>
                            clear hK K
                            try simp only [Act.put, List.setIfInBounds_toArray, List.set_cons_zero, List.set_cons_succ]
                            refine wpAnyH_ready (rs := [8]) (by kernel_rfl) (by simp) ?_
                            refine AllReadyH.cons (o := _) rfl (fun K hK => ?sta1x9) ?morea1x9
                            case sta1x9 =>
                              go_simp
                              refine hK.out _ _ ?hSa1x9 (fun hHeld => ?resta1x9)
                              case hSa1x9 => ((try dsimp only); first | with_reducible exact hHeld | with_reducible exact HSK.out _ (ext_drew _) | with_reducible exact HSK.out _ (ext_trans (ext_alloc _ _) (ext_drew _)) | with_reducible exact HSK.out _ (ext_trans (ext_drew _) (ext_alloc _ _)) | with_reducible exact HSK.out _ hx5 | with_reducible exact HSK.out _ (ext_trans hx5 (ext_alloc _ _)))
                              case resta1x9 =>
                                clear hK K
                                try simp only [Act.put, List.setIfInBounds_toArray, List.set_cons_zero, List.set_cons_succ]
                                refine wpAnyH_ready (rs := [9]) (by kernel_rfl) (by simp) ?_
                                refine AllReadyH.cons (o := _) rfl (fun K hK => ?sta1x10) ?morea1x10
                                case sta1x10 =>
                                  go_simp
                                  refine hK.out _ _ ?hSa1x10 (fun hHeld => ?resta1x10)
                                  case hSa1x10 => ((try dsimp only); first | with_reducible exact hHeld | with_reducible exact HSK.out _ (ext_drew _) | with_reducible exact HSK.out _ (ext_trans (ext_alloc _ _) (ext_drew _)) | with_reducible exact HSK.out _ (ext_trans (ext_drew _) (ext_alloc _ _)) | with_reducible exact HSK.out _ hx5 | with_reducible exact HSK.out _ (ext_trans hx5 (ext_alloc _ _)))
                                  case resta1x10 =>
                                    clear hK K
                                    try simp only [Act.put, List.setIfInBounds_toArray, List.set_cons_zero, List.set_cons_succ]
                                    refine wpAnyH_done (by kernel_rfl) ?_ _
                                    go_wp2
                                    go_meet
                                    exact ⟨rfl, by first | exact hx5 | (exact hHeld.2.2)⟩
                                case morea1x10 =>
                                 exact AllReadyH.nil
                            case morea1x9 =>
                             exact AllReadyH.nil
                        case morea1x8 =>
                         exact AllReadyH.nil
                    case morea1x7 =>
                     refine AllReadyH.cons (o := _) rfl (fun K hK => ?sta1x11) ?morea1x11
                     case sta1x11 =>
                       go_simp
                       go_at_call 60
                       (with_reducible refine (HT1.out _).mono ?_)
                       rintro e w5 ⟨rfl, hb5⟩
                       have hx5 : Below (World.heap V0).size V0 w5 := first_below hb5 (by (first | with_reducible exact ext_drew _ | with_reducible exact ext_trans (ext_alloc _ _) (ext_drew _) | with_reducible exact ext_trans (ext_drew _) (ext_alloc _ _)))
                       have hlc : World.cell? w5 ⟨(World.heap V0).size, 1, none⟩ = some (.string ⟨#[110, 101]⟩) := (hb5.cell (p := ⟨(World.heap V0).size, 1, none⟩) (by simp)).trans (by simp)
                       refine hK.out _ _ ?hSa1x11 (fun hHeld => ?resta1x11)
                       case hSa1x11 => ((try dsimp only); first | with_reducible exact hHeld | with_reducible exact HSK.out _ (ext_drew _) | with_reducible exact HSK.out _ (ext_trans (ext_alloc _ _) (ext_drew _)) | with_reducible exact HSK.out _ (ext_trans (ext_drew _) (ext_alloc _ _)) | with_reducible exact HSK.out _ hx5 | with_reducible exact HSK.out _ (ext_trans hx5 (ext_alloc _ _)))
                       case resta1x11 =>
                         clear hK K
                         try simp only [Act.put, List.setIfInBounds_toArray, List.set_cons_zero, List.set_cons_succ]
                         refine wpAnyH_ready (rs := [4]) (by kernel_rfl) (by simp) ?_
                         refine AllReadyH.cons (o := _) rfl (fun K hK => ?sta1x12) ?morea1x12
                         case sta1x12 =>
                           go_simp
                           refine hK.out _ _ ?hSa1x12 (fun hHeld => ?resta1x12)
                           case hSa1x12 => ((try dsimp only); first | with_reducible exact hHeld | with_reducible exact HSK.out _ (ext_drew _) | with_reducible exact HSK.out _ (ext_trans (ext_alloc _ _) (ext_drew _)) | with_reducible exact HSK.out _ (ext_trans (ext_drew _) (ext_alloc _ _)) | with_reducible exact HSK.out _ hx5 | with_reducible exact HSK.out _ (ext_trans hx5 (ext_alloc _ _)))
                           case resta1x12 =>
                             clear hK K
                             try simp only [Act.put, List.setIfInBounds_toArray, List.set_cons_zero, List.set_cons_succ]
                             refine wpAnyH_ready (rs := [8]) (by kernel_rfl) (by simp) ?_
                             refine AllReadyH.cons (o := _) rfl (fun K hK => ?sta1x13) ?morea1x13
                             case sta1x13 =>
                               go_simp
                               refine hK.out _ _ ?hSa1x13 (fun hHeld => ?resta1x13)
                               case hSa1x13 => ((try dsimp only); first | with_reducible exact hHeld | with_reducible exact HSK.out _ (ext_drew _) | with_reducible exact HSK.out _ (ext_trans (ext_alloc _ _) (ext_drew _)) | with_reducible exact HSK.out _ (ext_trans (ext_drew _) (ext_alloc _ _)) | with_reducible exact HSK.out _ hx5 | with_reducible exact HSK.out _ (ext_trans hx5 (ext_alloc _ _)))
                               case resta1x13 =>
                                 clear hK K
                                 try simp only [Act.put, List.setIfInBounds_toArray, List.set_cons_zero, List.set_cons_succ]
                                 refine wpAnyH_ready (rs := [9]) (by kernel_rfl) (by simp) ?_
                                 refine AllReadyH.cons (o := _) rfl (fun K hK => ?sta1x14) ?morea1x14
                                 case sta1x14 =>
                                   go_simp
                                   refine hK.out _ _ ?hSa1x14 (fun hHeld => ?resta1x14)
                                   case hSa1x14 => ((try dsimp only); first | with_reducible exact hHeld | with_reducible exact HSK.out _ (ext_drew _) | with_reducible exact HSK.out _ (ext_trans (ext_alloc _ _) (ext_drew _)) | with_reducible exact HSK.out _ (ext_trans (ext_drew _) (ext_alloc _ _)) | with_reducible exact HSK.out _ hx5 | with_reducible exact HSK.out _ (ext_trans hx5 (ext_alloc _ _)))
                                   case resta1x14 =>
                                     clear hK K
                                     try simp only [Act.put, List.setIfInBounds_toArray, List.set_cons_zero, List.set_cons_succ]
                                     refine wpAnyH_done (by kernel_rfl) ?_ _
                                     go_wp2
                                     go_meet
                                     exact ⟨rfl, by first | exact hx5 | (exact hHeld.2.2)⟩
                                 case morea1x14 =>
                                  exact AllReadyH.nil
                             case morea1x13 =>
                              exact AllReadyH.nil
                         case morea1x12 =>
                          exact AllReadyH.nil
                     case morea1x11 =>
                      exact AllReadyH.nil
                case morea1x6 =>
                 refine AllReadyH.cons (o := _) rfl (fun K hK => ?sta1x15) ?morea1x15
                 case sta1x15 =>
                   go_simp
                   go_at_call 60
                   (with_reducible refine (HT1.out _).mono ?_)
                   rintro e w5 ⟨rfl, hb5⟩
                   have hx5 : Below (World.heap V0).size V0 w5 := first_below hb5 (by (first | with_reducible exact ext_drew _ | with_reducible exact ext_trans (ext_alloc _ _) (ext_drew _) | with_reducible exact ext_trans (ext_drew _) (ext_alloc _ _)))
                   have hlc : World.cell? w5 ⟨(World.heap V0).size, 1, none⟩ = some (.string ⟨#[110, 101]⟩) := (hb5.cell (p := ⟨(World.heap V0).size, 1, none⟩) (by simp)).trans (by simp)
                   refine hK.out _ _ ?hSa1x15 (fun hHeld => ?resta1x15)
                   case hSa1x15 => ((try dsimp only); first | with_reducible exact hHeld | with_reducible exact HSK.out _ (ext_drew _) | with_reducible exact HSK.out _ (ext_trans (ext_alloc _ _) (ext_drew _)) | with_reducible exact HSK.out _ (ext_trans (ext_drew _) (ext_alloc _ _)) | with_reducible exact HSK.out _ hx5 | with_reducible exact HSK.out _ (ext_trans hx5 (ext_alloc _ _)))
                   case resta1x15 =>
                     clear hK K
                     try simp only [Act.put, List.setIfInBounds_toArray, List.set_cons_zero, List.set_cons_succ]
                     refine wpAnyH_ready (rs := [3]) (by kernel_rfl) (by simp) ?_
                     refine AllReadyH.cons (o := _) rfl (fun K hK => ?sta1x16) ?morea1x16
                     case sta1x16 =>
                       go_simp
                       refine hK.out _ _ ?hSa1x16 (fun hHeld => ?resta1x16)
                       case hSa1x16 => ((try dsimp only); first | with_reducible exact hHeld | with_reducible exact HSK.out _ (ext_drew _) | with_reducible exact HSK.out _ (ext_trans (ext_alloc _ _) (ext_drew _)) | with_reducible exact HSK.out _ (ext_trans (ext_drew _) (ext_alloc _ _)) | with_reducible exact HSK.out _ hx5 | with_reducible exact HSK.out _ (ext_trans hx5 (ext_alloc _ _)))
                       case resta1x16 =>
                         clear hK K
                         try simp only [Act.put, List.setIfInBounds_toArray, List.set_cons_zero, List.set_cons_succ]
                         refine wpAnyH_ready (rs := [4]) (by kernel_rfl) (by simp) ?_
                         refine AllReadyH.cons (o := _) rfl (fun K hK => ?sta1x17) ?morea1x17
                         case sta1x17 =>
                           go_simp
                           refine hK.out _ _ ?hSa1x17 (fun hHeld => ?resta1x17)
                           case hSa1x17 => ((try dsimp only); first | with_reducible exact hHeld | with_reducible exact HSK.out _ (ext_drew _) | with_reducible exact HSK.out _ (ext_trans (ext_alloc _ _) (ext_drew _)) | with_reducible exact HSK.out _ (ext_trans (ext_drew _) (ext_alloc _ _)) | with_reducible exact HSK.out _ hx5 | with_reducible exact HSK.out _ (ext_trans hx5 (ext_alloc _ _)))
                           case resta1x17 =>
                             clear hK K
                             try simp only [Act.put, List.setIfInBounds_toArray, List.set_cons_zero, List.set_cons_succ]
                             refine wpAnyH_ready (rs := [8]) (by kernel_rfl) (by simp) ?_
                             refine AllReadyH.cons (o := _) rfl (fun K hK => ?sta1x18) ?morea1x18
                             case sta1x18 =>
                               go_simp
                               refine hK.out _ _ ?hSa1x18 (fun hHeld => ?resta1x18)
                               case hSa1x18 => ((try dsimp only); first | with_reducible exact hHeld | with_reducible exact HSK.out _ (ext_drew _) | with_reducible exact HSK.out _ (ext_trans (ext_alloc _ _) (ext_drew _)) | with_reducible exact HSK.out _ (ext_trans (ext_drew _) (ext_alloc _ _)) | with_reducible exact HSK.out _ hx5 | with_reducible exact HSK.out _ (ext_trans hx5 (ext_alloc _ _)))
                               case resta1x18 =>
                                 clear hK K
                                 try simp only [Act.put, List.setIfInBounds_toArray, List.set_cons_zero, List.set_cons_succ]
                                 refine wpAnyH_ready (rs := [9]) (by kernel_rfl) (by simp) ?_
                                 refine AllReadyH.cons (o := _) rfl (fun K hK => ?sta1x19) ?morea1x19
                                 case sta1x19 =>
                                   go_simp
                                   refine hK.out _ _ ?hSa1x19 (fun hHeld => ?resta1x19)
                                   case hSa1x19 => ((try dsimp only); first | with_reducible exact hHeld | with_reducible exact HSK.out _ (ext_drew _) | with_reducible exact HSK.out _ (ext_trans (ext_alloc _ _) (ext_drew _)) | with_reducible exact HSK.out _ (ext_trans (ext_drew _) (ext_alloc _ _)) | with_reducible exact HSK.out _ hx5 | with_reducible exact HSK.out _ (ext_trans hx5 (ext_alloc _ _)))
                                   case resta1x19 =>
                                     clear hK K
                                     try simp only [Act.put, List.setIfInBounds_toArray, List.set_cons_zero, List.set_cons_succ]
                                     refine wpAnyH_done (by kernel_rfl) ?_ _
                                     go_wp2
                                     go_meet
                                     exact ⟨rfl, by first | exact hx5 | (exact hHeld.2.2)⟩
                                 case morea1x19 =>
                                  exact AllReadyH.nil
                             case morea1x18 =>
                              exact AllReadyH.nil
                         case morea1x17 =>
                          exact AllReadyH.nil
                     case morea1x16 =>
                      exact AllReadyH.nil
                 case morea1x15 =>
                  exact AllReadyH.nil
            case morea1x5 =>
             refine AllReadyH.cons (o := _) rfl (fun K hK => ?sta1x20) ?morea1x20
             case sta1x20 =>
               go_simp
               go_at_call 60
               (with_reducible refine (HT1.out _).mono ?_)
               rintro e w5 ⟨rfl, hb5⟩
               have hx5 : Below (World.heap V0).size V0 w5 := first_below hb5 (by (first | with_reducible exact ext_drew _ | with_reducible exact ext_trans (ext_alloc _ _) (ext_drew _) | with_reducible exact ext_trans (ext_drew _) (ext_alloc _ _)))
               refine hK.out _ _ ?hSa1x20 (fun hHeld => ?resta1x20)
               case hSa1x20 => ((try dsimp only); first | with_reducible exact hHeld | with_reducible exact HSK.out _ (ext_drew _) | with_reducible exact HSK.out _ (ext_trans (ext_alloc _ _) (ext_drew _)) | with_reducible exact HSK.out _ (ext_trans (ext_drew _) (ext_alloc _ _)) | with_reducible exact HSK.out _ hx5 | with_reducible exact HSK.out _ (ext_trans hx5 (ext_alloc _ _)))
               case resta1x20 =>
                 clear hK K
                 try simp only [Act.put, List.setIfInBounds_toArray, List.set_cons_zero, List.set_cons_succ]
                 refine wpAnyH_ready (rs := [0]) (by kernel_rfl) (by simp) ?_
                 refine AllReadyH.cons (o := _) rfl (fun K hK => ?sta1x21) ?morea1x21
                 case sta1x21 =>
                   go_simp
                   refine hK.out _ _ ?hSa1x21 (fun hHeld => ?resta1x21)
                   case hSa1x21 => ((try dsimp only); first | with_reducible exact hHeld | with_reducible exact HSK.out _ (ext_drew _) | with_reducible exact HSK.out _ (ext_trans (ext_alloc _ _) (ext_drew _)) | with_reducible exact HSK.out _ (ext_trans (ext_drew _) (ext_alloc _ _)) | with_reducible exact HSK.out _ hx5 | with_reducible exact HSK.out _ (ext_trans hx5 (ext_alloc _ _)))
                   case resta1x21 =>
                     clear hK K
                     try simp only [Act.put, List.setIfInBounds_toArray, List.set_cons_zero, List.set_cons_succ]
                     refine wpAnyH_ready (rs := [3]) (by kernel_rfl) (by simp) ?_
                     refine AllReadyH.cons (o := _) rfl (fun K hK => ?sta1x22) ?morea1x22
                     case sta1x22 =>
                       go_simp
                       refine hK.out _ _ ?hSa1x22 (fun hHeld => ?resta1x22)
                       case hSa1x22 => ((try dsimp only); first | with_reducible exact hHeld | with_reducible exact HSK.out _ (ext_drew _) | with_reducible exact HSK.out _ (ext_trans (ext_alloc _ _) (ext_drew _)) | with_reducible exact HSK.out _ (ext_trans (ext_drew _) (ext_alloc _ _)) | with_reducible exact HSK.out _ hx5 | with_reducible exact HSK.out _ (ext_trans hx5 (ext_alloc _ _)))
                       case resta1x22 =>
                         clear hK K
                         try simp only [Act.put, List.setIfInBounds_toArray, List.set_cons_zero, List.set_cons_succ]
                         refine wpAnyH_ready (rs := [4]) (by kernel_rfl) (by simp) ?_
                         refine AllReadyH.cons (o := _) rfl (fun K hK => ?sta1x23) ?morea1x23
                         case sta1x23 =>
                           go_simp
                           refine hK.out _ _ ?hSa1x23 (fun hHeld => ?resta1x23)
                           case hSa1x23 => ((try dsimp only); first | with_reducible exact hHeld | with_reducible exact HSK.out _ (ext_drew _) | with_reducible exact HSK.out _ (ext_trans (ext_alloc _ _) (ext_drew _)) | with_reducible exact HSK.out _ (ext_trans (ext_drew _) (ext_alloc _ _)) | with_reducible exact HSK.out _ hx5 | with_reducible exact HSK.out _ (ext_trans hx5 (ext_alloc _ _)))
                           case resta1x23 =>
                             clear hK K
                             try simp only [Act.put, List.setIfInBounds_toArray, List.set_cons_zero, List.set_cons_succ]
                             refine wpAnyH_ready (rs := [8]) (by kernel_rfl) (by simp) ?_
                             refine AllReadyH.cons (o := _) rfl (fun K hK => ?sta1x24) ?morea1x24
                             case sta1x24 =>
                               go_simp
                               refine hK.out _ _ ?hSa1x24 (fun hHeld => ?resta1x24)
                               case hSa1x24 => ((try dsimp only); first | with_reducible exact hHeld | with_reducible exact HSK.out _ (ext_drew _) | with_reducible exact HSK.out _ (ext_trans (ext_alloc _ _) (ext_drew _)) | with_reducible exact HSK.out _ (ext_trans (ext_drew _) (ext_alloc _ _)) | with_reducible exact HSK.out _ hx5 | with_reducible exact HSK.out _ (ext_trans hx5 (ext_alloc _ _)))
                               case resta1x24 =>
                                 clear hK K
                                 try simp only [Act.put, List.setIfInBounds_toArray, List.set_cons_zero, List.set_cons_succ]
                                 refine wpAnyH_ready (rs := [9]) (by kernel_rfl) (by simp) ?_
                                 refine AllReadyH.cons (o := _) rfl (fun K hK => ?sta1x25) ?morea1x25
                                 case sta1x25 =>
                                   go_simp
                                   refine hK.out _ _ ?hSa1x25 (fun hHeld => ?resta1x25)
                                   case hSa1x25 => ((try dsimp only); first | with_reducible exact hHeld | with_reducible exact HSK.out _ (ext_drew _) | with_reducible exact HSK.out _ (ext_trans (ext_alloc _ _) (ext_drew _)) | with_reducible exact HSK.out _ (ext_trans (ext_drew _) (ext_alloc _ _)) | with_reducible exact HSK.out _ hx5 | with_reducible exact HSK.out _ (ext_trans hx5 (ext_alloc _ _)))
                                   case resta1x25 =>
                                     clear hK K
                                     try simp only [Act.put, List.setIfInBounds_toArray, List.set_cons_zero, List.set_cons_succ]
                                     refine wpAnyH_done (by kernel_rfl) ?_ _
                                     go_wp2
                                     go_meet
                                     exact ⟨rfl, by first | exact hx5 | (exact hHeld.2.2)⟩
                                 case morea1x25 =>
                                  exact AllReadyH.nil
                             case morea1x24 =>
                              exact AllReadyH.nil
                         case morea1x23 =>
                          exact AllReadyH.nil
                     case morea1x22 =>
                      exact AllReadyH.nil
                 case morea1x21 =>
                  exact AllReadyH.nil
             case morea1x20 =>
              exact AllReadyH.nil
    · have HSK := Lib.hid (fun (w' : World) (hb : Below (World.heap V0).size V0 w') => (show World.cell? w' ⟨w.heap.size, 0, none⟩ = some (.int .i64 2) ∧ World.cell? w' ⟨w.heap.size, 1, none⟩ = some (.int .i64 (u : Int)) ∧ Below (World.heap V0).size V0 w' from ⟨(hb.cell (p := ⟨w.heap.size, 0, none⟩) hyb).trans v0, (hb.cell (p := ⟨w.heap.size, 1, none⟩) hyb).trans v1, hb⟩))
      refine wp_region_held_drew (S := (fun w' => World.cell? w' ⟨w.heap.size, 0, none⟩ = some (.int .i64 2) ∧ World.cell? w' ⟨w.heap.size, 1, none⟩ = some (.int .i64 (u : Int)) ∧ Below (World.heap V0).size V0 w')) (by kernel_rfl) ?hSa2x0 (fun hHeld => ?resta2x0)
      case hSa2x0 => ((try dsimp only); first | with_reducible exact hHeld | with_reducible exact HSK.out _ (ext_drew _) | with_reducible exact HSK.out _ (ext_trans (ext_alloc _ _) (ext_drew _)) | with_reducible exact HSK.out _ (ext_trans (ext_drew _) (ext_alloc _ _)) | with_reducible exact HSK.out _ hx5 | with_reducible exact HSK.out _ (ext_trans hx5 (ext_alloc _ _)))
      case resta2x0 =>
        refine wpAnyH_take (i := 1) (oi := _) (v := ?va2x1) rfl (by kernel_rfl) (by kernel_rfl) (by kernel_rfl) (fun _ _ _ h => h) (Or.inl ⟨by rfl, ?hya2x1⟩) (by assumption) ?resta2x1
        case hya2x1 => ((intro w hSw; (try dsimp only at hSw); go_simp) <;> (with_reducible rfl))
        case resta2x1 =>
         try simp only [Act.put, List.setIfInBounds_toArray, List.set_cons_zero, List.set_cons_succ]
         refine wpAnyH_take (i := 2) (oi := _) (v := ?va2x2) rfl (by kernel_rfl) (by kernel_rfl) (by kernel_rfl) (fun _ _ _ h => h) (Or.inl ⟨by rfl, ?hya2x2⟩) (by assumption) ?resta2x2
         case hya2x2 => ((intro w hSw; (try dsimp only at hSw); go_simp) <;> (with_reducible rfl))
         case resta2x2 =>
          try simp only [Act.put, List.setIfInBounds_toArray, List.set_cons_zero, List.set_cons_succ]
          refine wpAnyH_take (i := 5) (oi := _) (v := ?va2x3) rfl (by kernel_rfl) (by kernel_rfl) (by kernel_rfl) (fun _ _ _ h => h) (Or.inl ⟨by rfl, ?hya2x3⟩) (by assumption) ?resta2x3
          case hya2x3 => ((intro w hSw; (try dsimp only at hSw); go_simp) <;> (with_reducible rfl))
          case resta2x3 =>
           try simp only [Act.put, List.setIfInBounds_toArray, List.set_cons_zero, List.set_cons_succ]
           refine wpAnyH_take (i := 6) (oi := _) (v := ?va2x4) rfl (by kernel_rfl) (by kernel_rfl) (by kernel_rfl) (fun _ _ _ h => h) (Or.inl ⟨by rfl, ?hya2x4⟩) (by assumption) ?resta2x4
           case hya2x4 => ((intro w hSw; (try dsimp only at hSw); go_simp) <;> (with_reducible rfl))
           case resta2x4 =>
            try simp only [Act.put, List.setIfInBounds_toArray, List.set_cons_zero, List.set_cons_succ]
            refine wpAnyH_ready (rs := [0, 7]) (by kernel_rfl) (by simp) ?_
            refine AllReadyH.cons (o := _) rfl (fun K hK => ?sta2x5) ?morea2x5
            case sta2x5 =>
              go_simp
              refine hK.out _ _ ?hSa2x5 (fun hHeld => ?resta2x5)
              case hSa2x5 => ((try dsimp only); first | with_reducible exact hHeld | with_reducible exact HSK.out _ (ext_drew _) | with_reducible exact HSK.out _ (ext_trans (ext_alloc _ _) (ext_drew _)) | with_reducible exact HSK.out _ (ext_trans (ext_drew _) (ext_alloc _ _)) | with_reducible exact HSK.out _ hx5 | with_reducible exact HSK.out _ (ext_trans hx5 (ext_alloc _ _)))
              case resta2x5 =>
                clear hK K
                try simp only [Act.put, List.setIfInBounds_toArray, List.set_cons_zero, List.set_cons_succ]
                refine wpAnyH_ready (rs := [3, 7]) (by kernel_rfl) (by simp) ?_
                refine AllReadyH.cons (o := _) rfl (fun K hK => ?sta2x6) ?morea2x6
                case sta2x6 =>
                  go_simp
                  refine hK.out _ _ ?hSa2x6 (fun hHeld => ?resta2x6)
                  case hSa2x6 => ((try dsimp only); first | with_reducible exact hHeld | with_reducible exact HSK.out _ (ext_drew _) | with_reducible exact HSK.out _ (ext_trans (ext_alloc _ _) (ext_drew _)) | with_reducible exact HSK.out _ (ext_trans (ext_drew _) (ext_alloc _ _)) | with_reducible exact HSK.out _ hx5 | with_reducible exact HSK.out _ (ext_trans hx5 (ext_alloc _ _)))
                  case resta2x6 =>
                    clear hK K
                    try simp only [Act.put, List.setIfInBounds_toArray, List.set_cons_zero, List.set_cons_succ]
                    refine wpAnyH_ready (rs := [4, 7]) (by kernel_rfl) (by simp) ?_
                    refine AllReadyH.cons (o := _) rfl (fun K hK => ?sta2x7) ?morea2x7
                    case sta2x7 =>
                      go_simp
                      refine hK.out _ _ ?hSa2x7 (fun hHeld => ?resta2x7)
                      case hSa2x7 => ((try dsimp only); first | with_reducible exact hHeld | with_reducible exact HSK.out _ (ext_drew _) | with_reducible exact HSK.out _ (ext_trans (ext_alloc _ _) (ext_drew _)) | with_reducible exact HSK.out _ (ext_trans (ext_drew _) (ext_alloc _ _)) | with_reducible exact HSK.out _ hx5 | with_reducible exact HSK.out _ (ext_trans hx5 (ext_alloc _ _)))
                      case resta2x7 =>
                        clear hK K
                        try simp only [Act.put, List.setIfInBounds_toArray, List.set_cons_zero, List.set_cons_succ]
                        refine wpAnyH_ready (rs := [7]) (by kernel_rfl) (by simp) ?_
                        refine AllReadyH.cons (o := _) rfl (fun K hK => ?sta2x8) ?morea2x8
                        case sta2x8 =>
                          go_simp
                          go_at_call 60
                          (with_reducible refine (HT1.out _).mono ?_)
                          rintro e w5 ⟨rfl, hb5⟩
                          have hx5 : Below (World.heap V0).size V0 w5 := first_below hb5 (by (first | with_reducible exact ext_drew _ | with_reducible exact ext_trans (ext_alloc _ _) (ext_drew _) | with_reducible exact ext_trans (ext_drew _) (ext_alloc _ _)))
                          have hlc : World.cell? w5 ⟨(World.heap V0).size, 2, none⟩ = some (.string ⟨#[101]⟩) := (hb5.cell (p := ⟨(World.heap V0).size, 2, none⟩) (by simp)).trans (by simp)
                          refine hK.out _ _ ?hSa2x8 (fun hHeld => ?resta2x8)
                          case hSa2x8 => ((try dsimp only); first | with_reducible exact hHeld | with_reducible exact HSK.out _ (ext_drew _) | with_reducible exact HSK.out _ (ext_trans (ext_alloc _ _) (ext_drew _)) | with_reducible exact HSK.out _ (ext_trans (ext_drew _) (ext_alloc _ _)) | with_reducible exact HSK.out _ hx5 | with_reducible exact HSK.out _ (ext_trans hx5 (ext_alloc _ _)))
                          case resta2x8 =>
                            clear hK K
                            try simp only [Act.put, List.setIfInBounds_toArray, List.set_cons_zero, List.set_cons_succ]
                            refine wpAnyH_ready (rs := [8]) (by kernel_rfl) (by simp) ?_
                            refine AllReadyH.cons (o := _) rfl (fun K hK => ?sta2x9) ?morea2x9
                            case sta2x9 =>
                              go_simp
                              refine hK.out _ _ ?hSa2x9 (fun hHeld => ?resta2x9)
                              case hSa2x9 => ((try dsimp only); first | with_reducible exact hHeld | with_reducible exact HSK.out _ (ext_drew _) | with_reducible exact HSK.out _ (ext_trans (ext_alloc _ _) (ext_drew _)) | with_reducible exact HSK.out _ (ext_trans (ext_drew _) (ext_alloc _ _)) | with_reducible exact HSK.out _ hx5 | with_reducible exact HSK.out _ (ext_trans hx5 (ext_alloc _ _)))
                              case resta2x9 =>
                                clear hK K
                                try simp only [Act.put, List.setIfInBounds_toArray, List.set_cons_zero, List.set_cons_succ]
                                refine wpAnyH_ready (rs := [9]) (by kernel_rfl) (by simp) ?_
                                refine AllReadyH.cons (o := _) rfl (fun K hK => ?sta2x10) ?morea2x10
                                case sta2x10 =>
                                  go_simp
                                  refine hK.out _ _ ?hSa2x10 (fun hHeld => ?resta2x10)
                                  case hSa2x10 => ((try dsimp only); first | with_reducible exact hHeld | with_reducible exact HSK.out _ (ext_drew _) | with_reducible exact HSK.out _ (ext_trans (ext_alloc _ _) (ext_drew _)) | with_reducible exact HSK.out _ (ext_trans (ext_drew _) (ext_alloc _ _)) | with_reducible exact HSK.out _ hx5 | with_reducible exact HSK.out _ (ext_trans hx5 (ext_alloc _ _)))
                                  case resta2x10 =>
                                    clear hK K
                                    try simp only [Act.put, List.setIfInBounds_toArray, List.set_cons_zero, List.set_cons_succ]
                                    refine wpAnyH_done (by kernel_rfl) ?_ _
                                    go_wp2
                                    go_meet
                                    exact ⟨rfl, by first | exact hx5 | (exact hHeld.2.2)⟩
                                case morea2x10 =>
                                 exact AllReadyH.nil
                            case morea2x9 =>
                             exact AllReadyH.nil
                        case morea2x8 =>
                         exact AllReadyH.nil
                    case morea2x7 =>
                     refine AllReadyH.cons (o := _) rfl (fun K hK => ?sta2x11) ?morea2x11
                     case sta2x11 =>
                       go_simp
                       go_at_call 60
                       (with_reducible refine (HT1.out _).mono ?_)
                       rintro e w5 ⟨rfl, hb5⟩
                       have hx5 : Below (World.heap V0).size V0 w5 := first_below hb5 (by (first | with_reducible exact ext_drew _ | with_reducible exact ext_trans (ext_alloc _ _) (ext_drew _) | with_reducible exact ext_trans (ext_drew _) (ext_alloc _ _)))
                       have hlc : World.cell? w5 ⟨(World.heap V0).size, 2, none⟩ = some (.string ⟨#[101]⟩) := (hb5.cell (p := ⟨(World.heap V0).size, 2, none⟩) (by simp)).trans (by simp)
                       refine hK.out _ _ ?hSa2x11 (fun hHeld => ?resta2x11)
                       case hSa2x11 => ((try dsimp only); first | with_reducible exact hHeld | with_reducible exact HSK.out _ (ext_drew _) | with_reducible exact HSK.out _ (ext_trans (ext_alloc _ _) (ext_drew _)) | with_reducible exact HSK.out _ (ext_trans (ext_drew _) (ext_alloc _ _)) | with_reducible exact HSK.out _ hx5 | with_reducible exact HSK.out _ (ext_trans hx5 (ext_alloc _ _)))
                       case resta2x11 =>
                         clear hK K
                         try simp only [Act.put, List.setIfInBounds_toArray, List.set_cons_zero, List.set_cons_succ]
                         refine wpAnyH_ready (rs := [4]) (by kernel_rfl) (by simp) ?_
                         refine AllReadyH.cons (o := _) rfl (fun K hK => ?sta2x12) ?morea2x12
                         case sta2x12 =>
                           go_simp
                           refine hK.out _ _ ?hSa2x12 (fun hHeld => ?resta2x12)
                           case hSa2x12 => ((try dsimp only); first | with_reducible exact hHeld | with_reducible exact HSK.out _ (ext_drew _) | with_reducible exact HSK.out _ (ext_trans (ext_alloc _ _) (ext_drew _)) | with_reducible exact HSK.out _ (ext_trans (ext_drew _) (ext_alloc _ _)) | with_reducible exact HSK.out _ hx5 | with_reducible exact HSK.out _ (ext_trans hx5 (ext_alloc _ _)))
                           case resta2x12 =>
                             clear hK K
                             try simp only [Act.put, List.setIfInBounds_toArray, List.set_cons_zero, List.set_cons_succ]
                             refine wpAnyH_ready (rs := [8]) (by kernel_rfl) (by simp) ?_
                             refine AllReadyH.cons (o := _) rfl (fun K hK => ?sta2x13) ?morea2x13
                             case sta2x13 =>
                               go_simp
                               refine hK.out _ _ ?hSa2x13 (fun hHeld => ?resta2x13)
                               case hSa2x13 => ((try dsimp only); first | with_reducible exact hHeld | with_reducible exact HSK.out _ (ext_drew _) | with_reducible exact HSK.out _ (ext_trans (ext_alloc _ _) (ext_drew _)) | with_reducible exact HSK.out _ (ext_trans (ext_drew _) (ext_alloc _ _)) | with_reducible exact HSK.out _ hx5 | with_reducible exact HSK.out _ (ext_trans hx5 (ext_alloc _ _)))
                               case resta2x13 =>
                                 clear hK K
                                 try simp only [Act.put, List.setIfInBounds_toArray, List.set_cons_zero, List.set_cons_succ]
                                 refine wpAnyH_ready (rs := [9]) (by kernel_rfl) (by simp) ?_
                                 refine AllReadyH.cons (o := _) rfl (fun K hK => ?sta2x14) ?morea2x14
                                 case sta2x14 =>
                                   go_simp
                                   refine hK.out _ _ ?hSa2x14 (fun hHeld => ?resta2x14)
                                   case hSa2x14 => ((try dsimp only); first | with_reducible exact hHeld | with_reducible exact HSK.out _ (ext_drew _) | with_reducible exact HSK.out _ (ext_trans (ext_alloc _ _) (ext_drew _)) | with_reducible exact HSK.out _ (ext_trans (ext_drew _) (ext_alloc _ _)) | with_reducible exact HSK.out _ hx5 | with_reducible exact HSK.out _ (ext_trans hx5 (ext_alloc _ _)))
                                   case resta2x14 =>
                                     clear hK K
                                     try simp only [Act.put, List.setIfInBounds_toArray, List.set_cons_zero, List.set_cons_succ]
                                     refine wpAnyH_done (by kernel_rfl) ?_ _
                                     go_wp2
                                     go_meet
                                     exact ⟨rfl, by first | exact hx5 | (exact hHeld.2.2)⟩
                                 case morea2x14 =>
                                  exact AllReadyH.nil
                             case morea2x13 =>
                              exact AllReadyH.nil
                         case morea2x12 =>
                          exact AllReadyH.nil
                     case morea2x11 =>
                      exact AllReadyH.nil
                case morea2x6 =>
                 refine AllReadyH.cons (o := _) rfl (fun K hK => ?sta2x15) ?morea2x15
                 case sta2x15 =>
                   go_simp
                   go_at_call 60
                   (with_reducible refine (HT1.out _).mono ?_)
                   rintro e w5 ⟨rfl, hb5⟩
                   have hx5 : Below (World.heap V0).size V0 w5 := first_below hb5 (by (first | with_reducible exact ext_drew _ | with_reducible exact ext_trans (ext_alloc _ _) (ext_drew _) | with_reducible exact ext_trans (ext_drew _) (ext_alloc _ _)))
                   have hlc : World.cell? w5 ⟨(World.heap V0).size, 2, none⟩ = some (.string ⟨#[101]⟩) := (hb5.cell (p := ⟨(World.heap V0).size, 2, none⟩) (by simp)).trans (by simp)
                   refine hK.out _ _ ?hSa2x15 (fun hHeld => ?resta2x15)
                   case hSa2x15 => ((try dsimp only); first | with_reducible exact hHeld | with_reducible exact HSK.out _ (ext_drew _) | with_reducible exact HSK.out _ (ext_trans (ext_alloc _ _) (ext_drew _)) | with_reducible exact HSK.out _ (ext_trans (ext_drew _) (ext_alloc _ _)) | with_reducible exact HSK.out _ hx5 | with_reducible exact HSK.out _ (ext_trans hx5 (ext_alloc _ _)))
                   case resta2x15 =>
                     clear hK K
                     try simp only [Act.put, List.setIfInBounds_toArray, List.set_cons_zero, List.set_cons_succ]
                     refine wpAnyH_ready (rs := [3]) (by kernel_rfl) (by simp) ?_
                     refine AllReadyH.cons (o := _) rfl (fun K hK => ?sta2x16) ?morea2x16
                     case sta2x16 =>
                       go_simp
                       refine hK.out _ _ ?hSa2x16 (fun hHeld => ?resta2x16)
                       case hSa2x16 => ((try dsimp only); first | with_reducible exact hHeld | with_reducible exact HSK.out _ (ext_drew _) | with_reducible exact HSK.out _ (ext_trans (ext_alloc _ _) (ext_drew _)) | with_reducible exact HSK.out _ (ext_trans (ext_drew _) (ext_alloc _ _)) | with_reducible exact HSK.out _ hx5 | with_reducible exact HSK.out _ (ext_trans hx5 (ext_alloc _ _)))
                       case resta2x16 =>
                         clear hK K
                         try simp only [Act.put, List.setIfInBounds_toArray, List.set_cons_zero, List.set_cons_succ]
                         refine wpAnyH_ready (rs := [4]) (by kernel_rfl) (by simp) ?_
                         refine AllReadyH.cons (o := _) rfl (fun K hK => ?sta2x17) ?morea2x17
                         case sta2x17 =>
                           go_simp
                           refine hK.out _ _ ?hSa2x17 (fun hHeld => ?resta2x17)
                           case hSa2x17 => ((try dsimp only); first | with_reducible exact hHeld | with_reducible exact HSK.out _ (ext_drew _) | with_reducible exact HSK.out _ (ext_trans (ext_alloc _ _) (ext_drew _)) | with_reducible exact HSK.out _ (ext_trans (ext_drew _) (ext_alloc _ _)) | with_reducible exact HSK.out _ hx5 | with_reducible exact HSK.out _ (ext_trans hx5 (ext_alloc _ _)))
                           case resta2x17 =>
                             clear hK K
                             try simp only [Act.put, List.setIfInBounds_toArray, List.set_cons_zero, List.set_cons_succ]
                             refine wpAnyH_ready (rs := [8]) (by kernel_rfl) (by simp) ?_
                             refine AllReadyH.cons (o := _) rfl (fun K hK => ?sta2x18) ?morea2x18
                             case sta2x18 =>
                               go_simp
                               refine hK.out _ _ ?hSa2x18 (fun hHeld => ?resta2x18)
                               case hSa2x18 => ((try dsimp only); first | with_reducible exact hHeld | with_reducible exact HSK.out _ (ext_drew _) | with_reducible exact HSK.out _ (ext_trans (ext_alloc _ _) (ext_drew _)) | with_reducible exact HSK.out _ (ext_trans (ext_drew _) (ext_alloc _ _)) | with_reducible exact HSK.out _ hx5 | with_reducible exact HSK.out _ (ext_trans hx5 (ext_alloc _ _)))
                               case resta2x18 =>
                                 clear hK K
                                 try simp only [Act.put, List.setIfInBounds_toArray, List.set_cons_zero, List.set_cons_succ]
                                 refine wpAnyH_ready (rs := [9]) (by kernel_rfl) (by simp) ?_
                                 refine AllReadyH.cons (o := _) rfl (fun K hK => ?sta2x19) ?morea2x19
                                 case sta2x19 =>
                                   go_simp
                                   refine hK.out _ _ ?hSa2x19 (fun hHeld => ?resta2x19)
                                   case hSa2x19 => ((try dsimp only); first | with_reducible exact hHeld | with_reducible exact HSK.out _ (ext_drew _) | with_reducible exact HSK.out _ (ext_trans (ext_alloc _ _) (ext_drew _)) | with_reducible exact HSK.out _ (ext_trans (ext_drew _) (ext_alloc _ _)) | with_reducible exact HSK.out _ hx5 | with_reducible exact HSK.out _ (ext_trans hx5 (ext_alloc _ _)))
                                   case resta2x19 =>
                                     clear hK K
                                     try simp only [Act.put, List.setIfInBounds_toArray, List.set_cons_zero, List.set_cons_succ]
                                     refine wpAnyH_done (by kernel_rfl) ?_ _
                                     go_wp2
                                     go_meet
                                     exact ⟨rfl, by first | exact hx5 | (exact hHeld.2.2)⟩
                                 case morea2x19 =>
                                  exact AllReadyH.nil
                             case morea2x18 =>
                              exact AllReadyH.nil
                         case morea2x17 =>
                          exact AllReadyH.nil
                     case morea2x16 =>
                      exact AllReadyH.nil
                 case morea2x15 =>
                  exact AllReadyH.nil
            case morea2x5 =>
             refine AllReadyH.cons (o := _) rfl (fun K hK => ?sta2x20) ?morea2x20
             case sta2x20 =>
               go_simp
               go_at_call 60
               (with_reducible refine (HT1.out _).mono ?_)
               rintro e w5 ⟨rfl, hb5⟩
               have hx5 : Below (World.heap V0).size V0 w5 := first_below hb5 (by (first | with_reducible exact ext_drew _ | with_reducible exact ext_trans (ext_alloc _ _) (ext_drew _) | with_reducible exact ext_trans (ext_drew _) (ext_alloc _ _)))
               refine hK.out _ _ ?hSa2x20 (fun hHeld => ?resta2x20)
               case hSa2x20 => ((try dsimp only); first | with_reducible exact hHeld | with_reducible exact HSK.out _ (ext_drew _) | with_reducible exact HSK.out _ (ext_trans (ext_alloc _ _) (ext_drew _)) | with_reducible exact HSK.out _ (ext_trans (ext_drew _) (ext_alloc _ _)) | with_reducible exact HSK.out _ hx5 | with_reducible exact HSK.out _ (ext_trans hx5 (ext_alloc _ _)))
               case resta2x20 =>
                 clear hK K
                 try simp only [Act.put, List.setIfInBounds_toArray, List.set_cons_zero, List.set_cons_succ]
                 refine wpAnyH_ready (rs := [0]) (by kernel_rfl) (by simp) ?_
                 refine AllReadyH.cons (o := _) rfl (fun K hK => ?sta2x21) ?morea2x21
                 case sta2x21 =>
                   go_simp
                   refine hK.out _ _ ?hSa2x21 (fun hHeld => ?resta2x21)
                   case hSa2x21 => ((try dsimp only); first | with_reducible exact hHeld | with_reducible exact HSK.out _ (ext_drew _) | with_reducible exact HSK.out _ (ext_trans (ext_alloc _ _) (ext_drew _)) | with_reducible exact HSK.out _ (ext_trans (ext_drew _) (ext_alloc _ _)) | with_reducible exact HSK.out _ hx5 | with_reducible exact HSK.out _ (ext_trans hx5 (ext_alloc _ _)))
                   case resta2x21 =>
                     clear hK K
                     try simp only [Act.put, List.setIfInBounds_toArray, List.set_cons_zero, List.set_cons_succ]
                     refine wpAnyH_ready (rs := [3]) (by kernel_rfl) (by simp) ?_
                     refine AllReadyH.cons (o := _) rfl (fun K hK => ?sta2x22) ?morea2x22
                     case sta2x22 =>
                       go_simp
                       refine hK.out _ _ ?hSa2x22 (fun hHeld => ?resta2x22)
                       case hSa2x22 => ((try dsimp only); first | with_reducible exact hHeld | with_reducible exact HSK.out _ (ext_drew _) | with_reducible exact HSK.out _ (ext_trans (ext_alloc _ _) (ext_drew _)) | with_reducible exact HSK.out _ (ext_trans (ext_drew _) (ext_alloc _ _)) | with_reducible exact HSK.out _ hx5 | with_reducible exact HSK.out _ (ext_trans hx5 (ext_alloc _ _)))
                       case resta2x22 =>
                         clear hK K
                         try simp only [Act.put, List.setIfInBounds_toArray, List.set_cons_zero, List.set_cons_succ]
                         refine wpAnyH_ready (rs := [4]) (by kernel_rfl) (by simp) ?_
                         refine AllReadyH.cons (o := _) rfl (fun K hK => ?sta2x23) ?morea2x23
                         case sta2x23 =>
                           go_simp
                           refine hK.out _ _ ?hSa2x23 (fun hHeld => ?resta2x23)
                           case hSa2x23 => ((try dsimp only); first | with_reducible exact hHeld | with_reducible exact HSK.out _ (ext_drew _) | with_reducible exact HSK.out _ (ext_trans (ext_alloc _ _) (ext_drew _)) | with_reducible exact HSK.out _ (ext_trans (ext_drew _) (ext_alloc _ _)) | with_reducible exact HSK.out _ hx5 | with_reducible exact HSK.out _ (ext_trans hx5 (ext_alloc _ _)))
                           case resta2x23 =>
                             clear hK K
                             try simp only [Act.put, List.setIfInBounds_toArray, List.set_cons_zero, List.set_cons_succ]
                             refine wpAnyH_ready (rs := [8]) (by kernel_rfl) (by simp) ?_
                             refine AllReadyH.cons (o := _) rfl (fun K hK => ?sta2x24) ?morea2x24
                             case sta2x24 =>
                               go_simp
                               refine hK.out _ _ ?hSa2x24 (fun hHeld => ?resta2x24)
                               case hSa2x24 => ((try dsimp only); first | with_reducible exact hHeld | with_reducible exact HSK.out _ (ext_drew _) | with_reducible exact HSK.out _ (ext_trans (ext_alloc _ _) (ext_drew _)) | with_reducible exact HSK.out _ (ext_trans (ext_drew _) (ext_alloc _ _)) | with_reducible exact HSK.out _ hx5 | with_reducible exact HSK.out _ (ext_trans hx5 (ext_alloc _ _)))
                               case resta2x24 =>
                                 clear hK K
                                 try simp only [Act.put, List.setIfInBounds_toArray, List.set_cons_zero, List.set_cons_succ]
                                 refine wpAnyH_ready (rs := [9]) (by kernel_rfl) (by simp) ?_
                                 refine AllReadyH.cons (o := _) rfl (fun K hK => ?sta2x25) ?morea2x25
                                 case sta2x25 =>
                                   go_simp
                                   refine hK.out _ _ ?hSa2x25 (fun hHeld => ?resta2x25)
                                   case hSa2x25 => ((try dsimp only); first | with_reducible exact hHeld | with_reducible exact HSK.out _ (ext_drew _) | with_reducible exact HSK.out _ (ext_trans (ext_alloc _ _) (ext_drew _)) | with_reducible exact HSK.out _ (ext_trans (ext_drew _) (ext_alloc _ _)) | with_reducible exact HSK.out _ hx5 | with_reducible exact HSK.out _ (ext_trans hx5 (ext_alloc _ _)))
                                   case resta2x25 =>
                                     clear hK K
                                     try simp only [Act.put, List.setIfInBounds_toArray, List.set_cons_zero, List.set_cons_succ]
                                     refine wpAnyH_done (by kernel_rfl) ?_ _
                                     go_wp2
                                     go_meet
                                     exact ⟨rfl, by first | exact hx5 | (exact hHeld.2.2)⟩
                                 case morea2x25 =>
                                  exact AllReadyH.nil
                             case morea2x24 =>
                              exact AllReadyH.nil
                         case morea2x23 =>
                          exact AllReadyH.nil
                     case morea2x22 =>
                      exact AllReadyH.nil
                 case morea2x21 =>
                  exact AllReadyH.nil
             case morea2x20 =>
              exact AllReadyH.nil
    · have HSK := Lib.hid (fun (w' : World) (hb : Below (World.heap V0).size V0 w') => (show World.cell? w' ⟨w.heap.size, 0, none⟩ = some (.int .i64 3) ∧ World.cell? w' ⟨w.heap.size, 1, none⟩ = some (.int .i64 (u : Int)) ∧ Below (World.heap V0).size V0 w' from ⟨(hb.cell (p := ⟨w.heap.size, 0, none⟩) hyb).trans v0, (hb.cell (p := ⟨w.heap.size, 1, none⟩) hyb).trans v1, hb⟩))
      refine wp_region_held_drew (S := (fun w' => World.cell? w' ⟨w.heap.size, 0, none⟩ = some (.int .i64 3) ∧ World.cell? w' ⟨w.heap.size, 1, none⟩ = some (.int .i64 (u : Int)) ∧ Below (World.heap V0).size V0 w')) (by kernel_rfl) ?hSa3x0 (fun hHeld => ?resta3x0)
      case hSa3x0 => ((try dsimp only); first | with_reducible exact hHeld | with_reducible exact HSK.out _ (ext_drew _) | with_reducible exact HSK.out _ (ext_trans (ext_alloc _ _) (ext_drew _)) | with_reducible exact HSK.out _ (ext_trans (ext_drew _) (ext_alloc _ _)) | with_reducible exact HSK.out _ hx5 | with_reducible exact HSK.out _ (ext_trans hx5 (ext_alloc _ _)))
      case resta3x0 =>
        refine wpAnyH_take (i := 1) (oi := _) (v := ?va3x1) rfl (by kernel_rfl) (by kernel_rfl) (by kernel_rfl) (fun _ _ _ h => h) (Or.inl ⟨by rfl, ?hya3x1⟩) (by assumption) ?resta3x1
        case hya3x1 => ((intro w hSw; (try dsimp only at hSw); go_simp) <;> (with_reducible rfl))
        case resta3x1 =>
         try simp only [Act.put, List.setIfInBounds_toArray, List.set_cons_zero, List.set_cons_succ]
         refine wpAnyH_take (i := 2) (oi := _) (v := ?va3x2) rfl (by kernel_rfl) (by kernel_rfl) (by kernel_rfl) (fun _ _ _ h => h) (Or.inl ⟨by rfl, ?hya3x2⟩) (by assumption) ?resta3x2
         case hya3x2 => ((intro w hSw; (try dsimp only at hSw); go_simp) <;> (with_reducible rfl))
         case resta3x2 =>
          try simp only [Act.put, List.setIfInBounds_toArray, List.set_cons_zero, List.set_cons_succ]
          refine wpAnyH_take (i := 5) (oi := _) (v := ?va3x3) rfl (by kernel_rfl) (by kernel_rfl) (by kernel_rfl) (fun _ _ _ h => h) (Or.inl ⟨by rfl, ?hya3x3⟩) (by assumption) ?resta3x3
          case hya3x3 => ((intro w hSw; (try dsimp only at hSw); go_simp) <;> (with_reducible rfl))
          case resta3x3 =>
           try simp only [Act.put, List.setIfInBounds_toArray, List.set_cons_zero, List.set_cons_succ]
           refine wpAnyH_take (i := 6) (oi := _) (v := ?va3x4) rfl (by kernel_rfl) (by kernel_rfl) (by kernel_rfl) (fun _ _ _ h => h) (Or.inl ⟨by rfl, ?hya3x4⟩) (by assumption) ?resta3x4
           case hya3x4 => ((intro w hSw; (try dsimp only at hSw); go_simp) <;> (with_reducible rfl))
           case resta3x4 =>
            try simp only [Act.put, List.setIfInBounds_toArray, List.set_cons_zero, List.set_cons_succ]
            refine wpAnyH_ready (rs := [0, 7]) (by kernel_rfl) (by simp) ?_
            refine AllReadyH.cons (o := _) rfl (fun K hK => ?sta3x5) ?morea3x5
            case sta3x5 =>
              go_simp
              refine hK.out _ _ ?hSa3x5 (fun hHeld => ?resta3x5)
              case hSa3x5 => ((try dsimp only); first | with_reducible exact hHeld | with_reducible exact HSK.out _ (ext_drew _) | with_reducible exact HSK.out _ (ext_trans (ext_alloc _ _) (ext_drew _)) | with_reducible exact HSK.out _ (ext_trans (ext_drew _) (ext_alloc _ _)) | with_reducible exact HSK.out _ hx5 | with_reducible exact HSK.out _ (ext_trans hx5 (ext_alloc _ _)))
              case resta3x5 =>
                clear hK K
                try simp only [Act.put, List.setIfInBounds_toArray, List.set_cons_zero, List.set_cons_succ]
                refine wpAnyH_ready (rs := [3, 7]) (by kernel_rfl) (by simp) ?_
                refine AllReadyH.cons (o := _) rfl (fun K hK => ?sta3x6) ?morea3x6
                case sta3x6 =>
                  go_simp
                  refine hK.out _ _ ?hSa3x6 (fun hHeld => ?resta3x6)
                  case hSa3x6 => ((try dsimp only); first | with_reducible exact hHeld | with_reducible exact HSK.out _ (ext_drew _) | with_reducible exact HSK.out _ (ext_trans (ext_alloc _ _) (ext_drew _)) | with_reducible exact HSK.out _ (ext_trans (ext_drew _) (ext_alloc _ _)) | with_reducible exact HSK.out _ hx5 | with_reducible exact HSK.out _ (ext_trans hx5 (ext_alloc _ _)))
                  case resta3x6 =>
                    clear hK K
                    try simp only [Act.put, List.setIfInBounds_toArray, List.set_cons_zero, List.set_cons_succ]
                    refine wpAnyH_ready (rs := [4, 7]) (by kernel_rfl) (by simp) ?_
                    refine AllReadyH.cons (o := _) rfl (fun K hK => ?sta3x7) ?morea3x7
                    case sta3x7 =>
                      go_simp
                      refine hK.out _ _ ?hSa3x7 (fun hHeld => ?resta3x7)
                      case hSa3x7 => ((try dsimp only); first | with_reducible exact hHeld | with_reducible exact HSK.out _ (ext_drew _) | with_reducible exact HSK.out _ (ext_trans (ext_alloc _ _) (ext_drew _)) | with_reducible exact HSK.out _ (ext_trans (ext_drew _) (ext_alloc _ _)) | with_reducible exact HSK.out _ hx5 | with_reducible exact HSK.out _ (ext_trans hx5 (ext_alloc _ _)))
                      case resta3x7 =>
                        clear hK K
                        try simp only [Act.put, List.setIfInBounds_toArray, List.set_cons_zero, List.set_cons_succ]
                        refine wpAnyH_ready (rs := [7]) (by kernel_rfl) (by simp) ?_
                        refine AllReadyH.cons (o := _) rfl (fun K hK => ?sta3x8) ?morea3x8
                        case sta3x8 =>
                          go_simp
                          go_at_call 60
                          (with_reducible refine (HT1.out _).mono ?_)
                          rintro e w5 ⟨rfl, hb5⟩
                          have hx5 : Below (World.heap V0).size V0 w5 := first_below hb5 (by (first | with_reducible exact ext_drew _ | with_reducible exact ext_trans (ext_alloc _ _) (ext_drew _) | with_reducible exact ext_trans (ext_drew _) (ext_alloc _ _)))
                          have hlc : World.cell? w5 ⟨(World.heap V0).size, 3, none⟩ = some (.string ⟨#[115, 101]⟩) := (hb5.cell (p := ⟨(World.heap V0).size, 3, none⟩) (by simp)).trans (by simp)
                          refine hK.out _ _ ?hSa3x8 (fun hHeld => ?resta3x8)
                          case hSa3x8 => ((try dsimp only); first | with_reducible exact hHeld | with_reducible exact HSK.out _ (ext_drew _) | with_reducible exact HSK.out _ (ext_trans (ext_alloc _ _) (ext_drew _)) | with_reducible exact HSK.out _ (ext_trans (ext_drew _) (ext_alloc _ _)) | with_reducible exact HSK.out _ hx5 | with_reducible exact HSK.out _ (ext_trans hx5 (ext_alloc _ _)))
                          case resta3x8 =>
                            clear hK K
                            try simp only [Act.put, List.setIfInBounds_toArray, List.set_cons_zero, List.set_cons_succ]
                            refine wpAnyH_ready (rs := [8]) (by kernel_rfl) (by simp) ?_
                            refine AllReadyH.cons (o := _) rfl (fun K hK => ?sta3x9) ?morea3x9
                            case sta3x9 =>
                              go_simp
                              refine hK.out _ _ ?hSa3x9 (fun hHeld => ?resta3x9)
                              case hSa3x9 => ((try dsimp only); first | with_reducible exact hHeld | with_reducible exact HSK.out _ (ext_drew _) | with_reducible exact HSK.out _ (ext_trans (ext_alloc _ _) (ext_drew _)) | with_reducible exact HSK.out _ (ext_trans (ext_drew _) (ext_alloc _ _)) | with_reducible exact HSK.out _ hx5 | with_reducible exact HSK.out _ (ext_trans hx5 (ext_alloc _ _)))
                              case resta3x9 =>
                                clear hK K
                                try simp only [Act.put, List.setIfInBounds_toArray, List.set_cons_zero, List.set_cons_succ]
                                refine wpAnyH_ready (rs := [9]) (by kernel_rfl) (by simp) ?_
                                refine AllReadyH.cons (o := _) rfl (fun K hK => ?sta3x10) ?morea3x10
                                case sta3x10 =>
                                  go_simp
                                  refine hK.out _ _ ?hSa3x10 (fun hHeld => ?resta3x10)
                                  case hSa3x10 => ((try dsimp only); first | with_reducible exact hHeld | with_reducible exact HSK.out _ (ext_drew _) | with_reducible exact HSK.out _ (ext_trans (ext_alloc _ _) (ext_drew _)) | with_reducible exact HSK.out _ (ext_trans (ext_drew _) (ext_alloc _ _)) | with_reducible exact HSK.out _ hx5 | with_reducible exact HSK.out _ (ext_trans hx5 (ext_alloc _ _)))
                                  case resta3x10 =>
                                    clear hK K
                                    try simp only [Act.put, List.setIfInBounds_toArray, List.set_cons_zero, List.set_cons_succ]
                                    refine wpAnyH_done (by kernel_rfl) ?_ _
                                    go_wp2
                                    go_meet
                                    exact ⟨rfl, by first | exact hx5 | (exact hHeld.2.2)⟩
                                case morea3x10 =>
                                 exact AllReadyH.nil
                            case morea3x9 =>
                             exact AllReadyH.nil
                        case morea3x8 =>
                         exact AllReadyH.nil
                    case morea3x7 =>
                     refine AllReadyH.cons (o := _) rfl (fun K hK => ?sta3x11) ?morea3x11
                     case sta3x11 =>
                       go_simp
                       go_at_call 60
                       (with_reducible refine (HT1.out _).mono ?_)
                       rintro e w5 ⟨rfl, hb5⟩
                       have hx5 : Below (World.heap V0).size V0 w5 := first_below hb5 (by (first | with_reducible exact ext_drew _ | with_reducible exact ext_trans (ext_alloc _ _) (ext_drew _) | with_reducible exact ext_trans (ext_drew _) (ext_alloc _ _)))
                       have hlc : World.cell? w5 ⟨(World.heap V0).size, 3, none⟩ = some (.string ⟨#[115, 101]⟩) := (hb5.cell (p := ⟨(World.heap V0).size, 3, none⟩) (by simp)).trans (by simp)
                       refine hK.out _ _ ?hSa3x11 (fun hHeld => ?resta3x11)
                       case hSa3x11 => ((try dsimp only); first | with_reducible exact hHeld | with_reducible exact HSK.out _ (ext_drew _) | with_reducible exact HSK.out _ (ext_trans (ext_alloc _ _) (ext_drew _)) | with_reducible exact HSK.out _ (ext_trans (ext_drew _) (ext_alloc _ _)) | with_reducible exact HSK.out _ hx5 | with_reducible exact HSK.out _ (ext_trans hx5 (ext_alloc _ _)))
                       case resta3x11 =>
                         clear hK K
                         try simp only [Act.put, List.setIfInBounds_toArray, List.set_cons_zero, List.set_cons_succ]
                         refine wpAnyH_ready (rs := [4]) (by kernel_rfl) (by simp) ?_
                         refine AllReadyH.cons (o := _) rfl (fun K hK => ?sta3x12) ?morea3x12
                         case sta3x12 =>
                           go_simp
                           refine hK.out _ _ ?hSa3x12 (fun hHeld => ?resta3x12)
                           case hSa3x12 => ((try dsimp only); first | with_reducible exact hHeld | with_reducible exact HSK.out _ (ext_drew _) | with_reducible exact HSK.out _ (ext_trans (ext_alloc _ _) (ext_drew _)) | with_reducible exact HSK.out _ (ext_trans (ext_drew _) (ext_alloc _ _)) | with_reducible exact HSK.out _ hx5 | with_reducible exact HSK.out _ (ext_trans hx5 (ext_alloc _ _)))
                           case resta3x12 =>
                             clear hK K
                             try simp only [Act.put, List.setIfInBounds_toArray, List.set_cons_zero, List.set_cons_succ]
                             refine wpAnyH_ready (rs := [8]) (by kernel_rfl) (by simp) ?_
                             refine AllReadyH.cons (o := _) rfl (fun K hK => ?sta3x13) ?morea3x13
                             case sta3x13 =>
                               go_simp
                               refine hK.out _ _ ?hSa3x13 (fun hHeld => ?resta3x13)
                               case hSa3x13 => ((try dsimp only); first | with_reducible exact hHeld | with_reducible exact HSK.out _ (ext_drew _) | with_reducible exact HSK.out _ (ext_trans (ext_alloc _ _) (ext_drew _)) | with_reducible exact HSK.out _ (ext_trans (ext_drew _) (ext_alloc _ _)) | with_reducible exact HSK.out _ hx5 | with_reducible exact HSK.out _ (ext_trans hx5 (ext_alloc _ _)))
                               case resta3x13 =>
                                 clear hK K
                                 try simp only [Act.put, List.setIfInBounds_toArray, List.set_cons_zero, List.set_cons_succ]
                                 refine wpAnyH_ready (rs := [9]) (by kernel_rfl) (by simp) ?_
                                 refine AllReadyH.cons (o := _) rfl (fun K hK => ?sta3x14) ?morea3x14
                                 case sta3x14 =>
                                   go_simp
                                   refine hK.out _ _ ?hSa3x14 (fun hHeld => ?resta3x14)
                                   case hSa3x14 => ((try dsimp only); first | with_reducible exact hHeld | with_reducible exact HSK.out _ (ext_drew _) | with_reducible exact HSK.out _ (ext_trans (ext_alloc _ _) (ext_drew _)) | with_reducible exact HSK.out _ (ext_trans (ext_drew _) (ext_alloc _ _)) | with_reducible exact HSK.out _ hx5 | with_reducible exact HSK.out _ (ext_trans hx5 (ext_alloc _ _)))
                                   case resta3x14 =>
                                     clear hK K
                                     try simp only [Act.put, List.setIfInBounds_toArray, List.set_cons_zero, List.set_cons_succ]
                                     refine wpAnyH_done (by kernel_rfl) ?_ _
                                     go_wp2
                                     go_meet
                                     exact ⟨rfl, by first | exact hx5 | (exact hHeld.2.2)⟩
                                 case morea3x14 =>
                                  exact AllReadyH.nil
                             case morea3x13 =>
                              exact AllReadyH.nil
                         case morea3x12 =>
                          exact AllReadyH.nil
                     case morea3x11 =>
                      exact AllReadyH.nil
                case morea3x6 =>
                 refine AllReadyH.cons (o := _) rfl (fun K hK => ?sta3x15) ?morea3x15
                 case sta3x15 =>
                   go_simp
                   go_at_call 60
                   (with_reducible refine (HT1.out _).mono ?_)
                   rintro e w5 ⟨rfl, hb5⟩
                   have hx5 : Below (World.heap V0).size V0 w5 := first_below hb5 (by (first | with_reducible exact ext_drew _ | with_reducible exact ext_trans (ext_alloc _ _) (ext_drew _) | with_reducible exact ext_trans (ext_drew _) (ext_alloc _ _)))
                   have hlc : World.cell? w5 ⟨(World.heap V0).size, 3, none⟩ = some (.string ⟨#[115, 101]⟩) := (hb5.cell (p := ⟨(World.heap V0).size, 3, none⟩) (by simp)).trans (by simp)
                   refine hK.out _ _ ?hSa3x15 (fun hHeld => ?resta3x15)
                   case hSa3x15 => ((try dsimp only); first | with_reducible exact hHeld | with_reducible exact HSK.out _ (ext_drew _) | with_reducible exact HSK.out _ (ext_trans (ext_alloc _ _) (ext_drew _)) | with_reducible exact HSK.out _ (ext_trans (ext_drew _) (ext_alloc _ _)) | with_reducible exact HSK.out _ hx5 | with_reducible exact HSK.out _ (ext_trans hx5 (ext_alloc _ _)))
                   case resta3x15 =>
                     clear hK K
                     try simp only [Act.put, List.setIfInBounds_toArray, List.set_cons_zero, List.set_cons_succ]
                     refine wpAnyH_ready (rs := [3]) (by kernel_rfl) (by simp) ?_
                     refine AllReadyH.cons (o := _) rfl (fun K hK => ?sta3x16) ?morea3x16
                     case sta3x16 =>
                       go_simp
                       refine hK.out _ _ ?hSa3x16 (fun hHeld => ?resta3x16)
                       case hSa3x16 => ((try dsimp only); first | with_reducible exact hHeld | with_reducible exact HSK.out _ (ext_drew _) | with_reducible exact HSK.out _ (ext_trans (ext_alloc _ _) (ext_drew _)) | with_reducible exact HSK.out _ (ext_trans (ext_drew _) (ext_alloc _ _)) | with_reducible exact HSK.out _ hx5 | with_reducible exact HSK.out _ (ext_trans hx5 (ext_alloc _ _)))
                       case resta3x16 =>
                         clear hK K
                         try simp only [Act.put, List.setIfInBounds_toArray, List.set_cons_zero, List.set_cons_succ]
                         refine wpAnyH_ready (rs := [4]) (by kernel_rfl) (by simp) ?_
                         refine AllReadyH.cons (o := _) rfl (fun K hK => ?sta3x17) ?morea3x17
                         case sta3x17 =>
                           go_simp
                           refine hK.out _ _ ?hSa3x17 (fun hHeld => ?resta3x17)
                           case hSa3x17 => ((try dsimp only); first | with_reducible exact hHeld | with_reducible exact HSK.out _ (ext_drew _) | with_reducible exact HSK.out _ (ext_trans (ext_alloc _ _) (ext_drew _)) | with_reducible exact HSK.out _ (ext_trans (ext_drew _) (ext_alloc _ _)) | with_reducible exact HSK.out _ hx5 | with_reducible exact HSK.out _ (ext_trans hx5 (ext_alloc _ _)))
                           case resta3x17 =>
                             clear hK K
                             try simp only [Act.put, List.setIfInBounds_toArray, List.set_cons_zero, List.set_cons_succ]
                             refine wpAnyH_ready (rs := [8]) (by kernel_rfl) (by simp) ?_
                             refine AllReadyH.cons (o := _) rfl (fun K hK => ?sta3x18) ?morea3x18
                             case sta3x18 =>
                               go_simp
                               refine hK.out _ _ ?hSa3x18 (fun hHeld => ?resta3x18)
                               case hSa3x18 => ((try dsimp only); first | with_reducible exact hHeld | with_reducible exact HSK.out _ (ext_drew _) | with_reducible exact HSK.out _ (ext_trans (ext_alloc _ _) (ext_drew _)) | with_reducible exact HSK.out _ (ext_trans (ext_drew _) (ext_alloc _ _)) | with_reducible exact HSK.out _ hx5 | with_reducible exact HSK.out _ (ext_trans hx5 (ext_alloc _ _)))
                               case resta3x18 =>
                                 clear hK K
                                 try simp only [Act.put, List.setIfInBounds_toArray, List.set_cons_zero, List.set_cons_succ]
                                 refine wpAnyH_ready (rs := [9]) (by kernel_rfl) (by simp) ?_
                                 refine AllReadyH.cons (o := _) rfl (fun K hK => ?sta3x19) ?morea3x19
                                 case sta3x19 =>
                                   go_simp
                                   refine hK.out _ _ ?hSa3x19 (fun hHeld => ?resta3x19)
                                   case hSa3x19 => ((try dsimp only); first | with_reducible exact hHeld | with_reducible exact HSK.out _ (ext_drew _) | with_reducible exact HSK.out _ (ext_trans (ext_alloc _ _) (ext_drew _)) | with_reducible exact HSK.out _ (ext_trans (ext_drew _) (ext_alloc _ _)) | with_reducible exact HSK.out _ hx5 | with_reducible exact HSK.out _ (ext_trans hx5 (ext_alloc _ _)))
                                   case resta3x19 =>
                                     clear hK K
                                     try simp only [Act.put, List.setIfInBounds_toArray, List.set_cons_zero, List.set_cons_succ]
                                     refine wpAnyH_done (by kernel_rfl) ?_ _
                                     go_wp2
                                     go_meet
                                     exact ⟨rfl, by first | exact hx5 | (exact hHeld.2.2)⟩
                                 case morea3x19 =>
                                  exact AllReadyH.nil
                             case morea3x18 =>
                              exact AllReadyH.nil
                         case morea3x17 =>
                          exact AllReadyH.nil
                     case morea3x16 =>
                      exact AllReadyH.nil
                 case morea3x15 =>
                  exact AllReadyH.nil
            case morea3x5 =>
             refine AllReadyH.cons (o := _) rfl (fun K hK => ?sta3x20) ?morea3x20
             case sta3x20 =>
               go_simp
               go_at_call 60
               (with_reducible refine (HT1.out _).mono ?_)
               rintro e w5 ⟨rfl, hb5⟩
               have hx5 : Below (World.heap V0).size V0 w5 := first_below hb5 (by (first | with_reducible exact ext_drew _ | with_reducible exact ext_trans (ext_alloc _ _) (ext_drew _) | with_reducible exact ext_trans (ext_drew _) (ext_alloc _ _)))
               refine hK.out _ _ ?hSa3x20 (fun hHeld => ?resta3x20)
               case hSa3x20 => ((try dsimp only); first | with_reducible exact hHeld | with_reducible exact HSK.out _ (ext_drew _) | with_reducible exact HSK.out _ (ext_trans (ext_alloc _ _) (ext_drew _)) | with_reducible exact HSK.out _ (ext_trans (ext_drew _) (ext_alloc _ _)) | with_reducible exact HSK.out _ hx5 | with_reducible exact HSK.out _ (ext_trans hx5 (ext_alloc _ _)))
               case resta3x20 =>
                 clear hK K
                 try simp only [Act.put, List.setIfInBounds_toArray, List.set_cons_zero, List.set_cons_succ]
                 refine wpAnyH_ready (rs := [0]) (by kernel_rfl) (by simp) ?_
                 refine AllReadyH.cons (o := _) rfl (fun K hK => ?sta3x21) ?morea3x21
                 case sta3x21 =>
                   go_simp
                   refine hK.out _ _ ?hSa3x21 (fun hHeld => ?resta3x21)
                   case hSa3x21 => ((try dsimp only); first | with_reducible exact hHeld | with_reducible exact HSK.out _ (ext_drew _) | with_reducible exact HSK.out _ (ext_trans (ext_alloc _ _) (ext_drew _)) | with_reducible exact HSK.out _ (ext_trans (ext_drew _) (ext_alloc _ _)) | with_reducible exact HSK.out _ hx5 | with_reducible exact HSK.out _ (ext_trans hx5 (ext_alloc _ _)))
                   case resta3x21 =>
                     clear hK K
                     try simp only [Act.put, List.setIfInBounds_toArray, List.set_cons_zero, List.set_cons_succ]
                     refine wpAnyH_ready (rs := [3]) (by kernel_rfl) (by simp) ?_
                     refine AllReadyH.cons (o := _) rfl (fun K hK => ?sta3x22) ?morea3x22
                     case sta3x22 =>
                       go_simp
                       refine hK.out _ _ ?hSa3x22 (fun hHeld => ?resta3x22)
                       case hSa3x22 => ((try dsimp only); first | with_reducible exact hHeld | with_reducible exact HSK.out _ (ext_drew _) | with_reducible exact HSK.out _ (ext_trans (ext_alloc _ _) (ext_drew _)) | with_reducible exact HSK.out _ (ext_trans (ext_drew _) (ext_alloc _ _)) | with_reducible exact HSK.out _ hx5 | with_reducible exact HSK.out _ (ext_trans hx5 (ext_alloc _ _)))
                       case resta3x22 =>
                         clear hK K
                         try simp only [Act.put, List.setIfInBounds_toArray, List.set_cons_zero, List.set_cons_succ]
                         refine wpAnyH_ready (rs := [4]) (by kernel_rfl) (by simp) ?_
                         refine AllReadyH.cons (o := _) rfl (fun K hK => ?sta3x23) ?morea3x23
                         case sta3x23 =>
                           go_simp
                           refine hK.out _ _ ?hSa3x23 (fun hHeld => ?resta3x23)
                           case hSa3x23 => ((try dsimp only); first | with_reducible exact hHeld | with_reducible exact HSK.out _ (ext_drew _) | with_reducible exact HSK.out _ (ext_trans (ext_alloc _ _) (ext_drew _)) | with_reducible exact HSK.out _ (ext_trans (ext_drew _) (ext_alloc _ _)) | with_reducible exact HSK.out _ hx5 | with_reducible exact HSK.out _ (ext_trans hx5 (ext_alloc _ _)))
                           case resta3x23 =>
                             clear hK K
                             try simp only [Act.put, List.setIfInBounds_toArray, List.set_cons_zero, List.set_cons_succ]
                             refine wpAnyH_ready (rs := [8]) (by kernel_rfl) (by simp) ?_
                             refine AllReadyH.cons (o := _) rfl (fun K hK => ?sta3x24) ?morea3x24
                             case sta3x24 =>
                               go_simp
                               refine hK.out _ _ ?hSa3x24 (fun hHeld => ?resta3x24)
                               case hSa3x24 => ((try dsimp only); first | with_reducible exact hHeld | with_reducible exact HSK.out _ (ext_drew _) | with_reducible exact HSK.out _ (ext_trans (ext_alloc _ _) (ext_drew _)) | with_reducible exact HSK.out _ (ext_trans (ext_drew _) (ext_alloc _ _)) | with_reducible exact HSK.out _ hx5 | with_reducible exact HSK.out _ (ext_trans hx5 (ext_alloc _ _)))
                               case resta3x24 =>
                                 clear hK K
                                 try simp only [Act.put, List.setIfInBounds_toArray, List.set_cons_zero, List.set_cons_succ]
                                 refine wpAnyH_ready (rs := [9]) (by kernel_rfl) (by simp) ?_
                                 refine AllReadyH.cons (o := _) rfl (fun K hK => ?sta3x25) ?morea3x25
                                 case sta3x25 =>
                                   go_simp
                                   refine hK.out _ _ ?hSa3x25 (fun hHeld => ?resta3x25)
                                   case hSa3x25 => ((try dsimp only); first | with_reducible exact hHeld | with_reducible exact HSK.out _ (ext_drew _) | with_reducible exact HSK.out _ (ext_trans (ext_alloc _ _) (ext_drew _)) | with_reducible exact HSK.out _ (ext_trans (ext_drew _) (ext_alloc _ _)) | with_reducible exact HSK.out _ hx5 | with_reducible exact HSK.out _ (ext_trans hx5 (ext_alloc _ _)))
                                   case resta3x25 =>
                                     clear hK K
                                     try simp only [Act.put, List.setIfInBounds_toArray, List.set_cons_zero, List.set_cons_succ]
                                     refine wpAnyH_done (by kernel_rfl) ?_ _
                                     go_wp2
                                     go_meet
                                     exact ⟨rfl, by first | exact hx5 | (exact hHeld.2.2)⟩
                                 case morea3x25 =>
                                  exact AllReadyH.nil
                             case morea3x24 =>
                              exact AllReadyH.nil
                         case morea3x23 =>
                          exact AllReadyH.nil
                     case morea3x22 =>
                      exact AllReadyH.nil
                 case morea3x21 =>
                  exact AllReadyH.nil
             case morea3x20 =>
              exact AllReadyH.nil
    · have HSK := Lib.hid (fun (w' : World) (hb : Below (World.heap V0).size V0 w') => (show World.cell? w' ⟨w.heap.size, 0, none⟩ = some (.int .i64 4) ∧ World.cell? w' ⟨w.heap.size, 1, none⟩ = some (.int .i64 (u : Int)) ∧ Below (World.heap V0).size V0 w' from ⟨(hb.cell (p := ⟨w.heap.size, 0, none⟩) hyb).trans v0, (hb.cell (p := ⟨w.heap.size, 1, none⟩) hyb).trans v1, hb⟩))
      refine wp_region_held_drew (S := (fun w' => World.cell? w' ⟨w.heap.size, 0, none⟩ = some (.int .i64 4) ∧ World.cell? w' ⟨w.heap.size, 1, none⟩ = some (.int .i64 (u : Int)) ∧ Below (World.heap V0).size V0 w')) (by kernel_rfl) ?hSa4x0 (fun hHeld => ?resta4x0)
      case hSa4x0 => ((try dsimp only); first | with_reducible exact hHeld | with_reducible exact HSK.out _ (ext_drew _) | with_reducible exact HSK.out _ (ext_trans (ext_alloc _ _) (ext_drew _)) | with_reducible exact HSK.out _ (ext_trans (ext_drew _) (ext_alloc _ _)) | with_reducible exact HSK.out _ hx5 | with_reducible exact HSK.out _ (ext_trans hx5 (ext_alloc _ _)))
      case resta4x0 =>
        refine wpAnyH_take (i := 1) (oi := _) (v := ?va4x1) rfl (by kernel_rfl) (by kernel_rfl) (by kernel_rfl) (fun _ _ _ h => h) (Or.inl ⟨by rfl, ?hya4x1⟩) (by assumption) ?resta4x1
        case hya4x1 => ((intro w hSw; (try dsimp only at hSw); go_simp) <;> (with_reducible rfl))
        case resta4x1 =>
         try simp only [Act.put, List.setIfInBounds_toArray, List.set_cons_zero, List.set_cons_succ]
         refine wpAnyH_take (i := 2) (oi := _) (v := ?va4x2) rfl (by kernel_rfl) (by kernel_rfl) (by kernel_rfl) (fun _ _ _ h => h) (Or.inl ⟨by rfl, ?hya4x2⟩) (by assumption) ?resta4x2
         case hya4x2 => ((intro w hSw; (try dsimp only at hSw); go_simp) <;> (with_reducible rfl))
         case resta4x2 =>
          try simp only [Act.put, List.setIfInBounds_toArray, List.set_cons_zero, List.set_cons_succ]
          refine wpAnyH_take (i := 5) (oi := _) (v := ?va4x3) rfl (by kernel_rfl) (by kernel_rfl) (by kernel_rfl) (fun _ _ _ h => h) (Or.inl ⟨by rfl, ?hya4x3⟩) (by assumption) ?resta4x3
          case hya4x3 => ((intro w hSw; (try dsimp only at hSw); go_simp) <;> (with_reducible rfl))
          case resta4x3 =>
           try simp only [Act.put, List.setIfInBounds_toArray, List.set_cons_zero, List.set_cons_succ]
           refine wpAnyH_take (i := 6) (oi := _) (v := ?va4x4) rfl (by kernel_rfl) (by kernel_rfl) (by kernel_rfl) (fun _ _ _ h => h) (Or.inl ⟨by rfl, ?hya4x4⟩) (by assumption) ?resta4x4
           case hya4x4 => ((intro w hSw; (try dsimp only at hSw); go_simp) <;> (with_reducible rfl))
           case resta4x4 =>
            try simp only [Act.put, List.setIfInBounds_toArray, List.set_cons_zero, List.set_cons_succ]
            refine wpAnyH_ready (rs := [0, 7]) (by kernel_rfl) (by simp) ?_
            refine AllReadyH.cons (o := _) rfl (fun K hK => ?sta4x5) ?morea4x5
            case sta4x5 =>
              go_simp
              refine hK.out _ _ ?hSa4x5 (fun hHeld => ?resta4x5)
              case hSa4x5 => ((try dsimp only); first | with_reducible exact hHeld | with_reducible exact HSK.out _ (ext_drew _) | with_reducible exact HSK.out _ (ext_trans (ext_alloc _ _) (ext_drew _)) | with_reducible exact HSK.out _ (ext_trans (ext_drew _) (ext_alloc _ _)) | with_reducible exact HSK.out _ hx5 | with_reducible exact HSK.out _ (ext_trans hx5 (ext_alloc _ _)))
              case resta4x5 =>
                clear hK K
                try simp only [Act.put, List.setIfInBounds_toArray, List.set_cons_zero, List.set_cons_succ]
                refine wpAnyH_ready (rs := [3, 7]) (by kernel_rfl) (by simp) ?_
                refine AllReadyH.cons (o := _) rfl (fun K hK => ?sta4x6) ?morea4x6
                case sta4x6 =>
                  go_simp
                  refine hK.out _ _ ?hSa4x6 (fun hHeld => ?resta4x6)
                  case hSa4x6 => ((try dsimp only); first | with_reducible exact hHeld | with_reducible exact HSK.out _ (ext_drew _) | with_reducible exact HSK.out _ (ext_trans (ext_alloc _ _) (ext_drew _)) | with_reducible exact HSK.out _ (ext_trans (ext_drew _) (ext_alloc _ _)) | with_reducible exact HSK.out _ hx5 | with_reducible exact HSK.out _ (ext_trans hx5 (ext_alloc _ _)))
                  case resta4x6 =>
                    clear hK K
                    try simp only [Act.put, List.setIfInBounds_toArray, List.set_cons_zero, List.set_cons_succ]
                    refine wpAnyH_ready (rs := [4, 7]) (by kernel_rfl) (by simp) ?_
                    refine AllReadyH.cons (o := _) rfl (fun K hK => ?sta4x7) ?morea4x7
                    case sta4x7 =>
                      go_simp
                      refine hK.out _ _ ?hSa4x7 (fun hHeld => ?resta4x7)
                      case hSa4x7 => ((try dsimp only); first | with_reducible exact hHeld | with_reducible exact HSK.out _ (ext_drew _) | with_reducible exact HSK.out _ (ext_trans (ext_alloc _ _) (ext_drew _)) | with_reducible exact HSK.out _ (ext_trans (ext_drew _) (ext_alloc _ _)) | with_reducible exact HSK.out _ hx5 | with_reducible exact HSK.out _ (ext_trans hx5 (ext_alloc _ _)))
                      case resta4x7 =>
                        clear hK K
                        try simp only [Act.put, List.setIfInBounds_toArray, List.set_cons_zero, List.set_cons_succ]
                        refine wpAnyH_ready (rs := [7]) (by kernel_rfl) (by simp) ?_
                        refine AllReadyH.cons (o := _) rfl (fun K hK => ?sta4x8) ?morea4x8
                        case sta4x8 =>
                          go_simp
                          go_at_call 60
                          (with_reducible refine (HT1.out _).mono ?_)
                          rintro e w5 ⟨rfl, hb5⟩
                          have hx5 : Below (World.heap V0).size V0 w5 := first_below hb5 (by (first | with_reducible exact ext_drew _ | with_reducible exact ext_trans (ext_alloc _ _) (ext_drew _) | with_reducible exact ext_trans (ext_drew _) (ext_alloc _ _)))
                          have hlc : World.cell? w5 ⟨(World.heap V0).size, 4, none⟩ = some (.string ⟨#[115]⟩) := (hb5.cell (p := ⟨(World.heap V0).size, 4, none⟩) (by simp)).trans (by simp)
                          refine hK.out _ _ ?hSa4x8 (fun hHeld => ?resta4x8)
                          case hSa4x8 => ((try dsimp only); first | with_reducible exact hHeld | with_reducible exact HSK.out _ (ext_drew _) | with_reducible exact HSK.out _ (ext_trans (ext_alloc _ _) (ext_drew _)) | with_reducible exact HSK.out _ (ext_trans (ext_drew _) (ext_alloc _ _)) | with_reducible exact HSK.out _ hx5 | with_reducible exact HSK.out _ (ext_trans hx5 (ext_alloc _ _)))
                          case resta4x8 =>
                            clear hK K
                            try simp only [Act.put, List.setIfInBounds_toArray, List.set_cons_zero, List.set_cons_succ]
                            refine wpAnyH_ready (rs := [8]) (by kernel_rfl) (by simp) ?_
                            refine AllReadyH.cons (o := _) rfl (fun K hK => ?sta4x9) ?morea4x9
                            case sta4x9 =>
                              go_simp
                              refine hK.out _ _ ?hSa4x9 (fun hHeld => ?resta4x9)
                              case hSa4x9 => ((try dsimp only); first | with_reducible exact hHeld | with_reducible exact HSK.out _ (ext_drew _) | with_reducible exact HSK.out _ (ext_trans (ext_alloc _ _) (ext_drew _)) | with_reducible exact HSK.out _ (ext_trans (ext_drew _) (ext_alloc _ _)) | with_reducible exact HSK.out _ hx5 | with_reducible exact HSK.out _ (ext_trans hx5 (ext_alloc _ _)))
                              case resta4x9 =>
                                clear hK K
                                try simp only [Act.put, List.setIfInBounds_toArray, List.set_cons_zero, List.set_cons_succ]
                                refine wpAnyH_ready (rs := [9]) (by kernel_rfl) (by simp) ?_
                                refine AllReadyH.cons (o := _) rfl (fun K hK => ?sta4x10) ?morea4x10
                                case sta4x10 =>
                                  go_simp
                                  refine hK.out _ _ ?hSa4x10 (fun hHeld => ?resta4x10)
                                  case hSa4x10 => ((try dsimp only); first | with_reducible exact hHeld | with_reducible exact HSK.out _ (ext_drew _) | with_reducible exact HSK.out _ (ext_trans (ext_alloc _ _) (ext_drew _)) | with_reducible exact HSK.out _ (ext_trans (ext_drew _) (ext_alloc _ _)) | with_reducible exact HSK.out _ hx5 | with_reducible exact HSK.out _ (ext_trans hx5 (ext_alloc _ _)))
                                  case resta4x10 =>
                                    clear hK K
                                    try simp only [Act.put, List.setIfInBounds_toArray, List.set_cons_zero, List.set_cons_succ]
                                    refine wpAnyH_done (by kernel_rfl) ?_ _
                                    go_wp2
                                    go_meet
                                    exact ⟨rfl, by first | exact hx5 | (exact hHeld.2.2)⟩
                                case morea4x10 =>
                                 exact AllReadyH.nil
                            case morea4x9 =>
                             exact AllReadyH.nil
                        case morea4x8 =>
                         exact AllReadyH.nil
                    case morea4x7 =>
                     refine AllReadyH.cons (o := _) rfl (fun K hK => ?sta4x11) ?morea4x11
                     case sta4x11 =>
                       go_simp
                       go_at_call 60
                       (with_reducible refine (HT1.out _).mono ?_)
                       rintro e w5 ⟨rfl, hb5⟩
                       have hx5 : Below (World.heap V0).size V0 w5 := first_below hb5 (by (first | with_reducible exact ext_drew _ | with_reducible exact ext_trans (ext_alloc _ _) (ext_drew _) | with_reducible exact ext_trans (ext_drew _) (ext_alloc _ _)))
                       have hlc : World.cell? w5 ⟨(World.heap V0).size, 4, none⟩ = some (.string ⟨#[115]⟩) := (hb5.cell (p := ⟨(World.heap V0).size, 4, none⟩) (by simp)).trans (by simp)
                       refine hK.out _ _ ?hSa4x11 (fun hHeld => ?resta4x11)
                       case hSa4x11 => ((try dsimp only); first | with_reducible exact hHeld | with_reducible exact HSK.out _ (ext_drew _) | with_reducible exact HSK.out _ (ext_trans (ext_alloc _ _) (ext_drew _)) | with_reducible exact HSK.out _ (ext_trans (ext_drew _) (ext_alloc _ _)) | with_reducible exact HSK.out _ hx5 | with_reducible exact HSK.out _ (ext_trans hx5 (ext_alloc _ _)))
                       case resta4x11 =>
                         clear hK K
                         try simp only [Act.put, List.setIfInBounds_toArray, List.set_cons_zero, List.set_cons_succ]
                         refine wpAnyH_ready (rs := [4]) (by kernel_rfl) (by simp) ?_
                         refine AllReadyH.cons (o := _) rfl (fun K hK => ?sta4x12) ?morea4x12
                         case sta4x12 =>
                           go_simp
                           refine hK.out _ _ ?hSa4x12 (fun hHeld => ?resta4x12)
                           case hSa4x12 => ((try dsimp only); first | with_reducible exact hHeld | with_reducible exact HSK.out _ (ext_drew _) | with_reducible exact HSK.out _ (ext_trans (ext_alloc _ _) (ext_drew _)) | with_reducible exact HSK.out _ (ext_trans (ext_drew _) (ext_alloc _ _)) | with_reducible exact HSK.out _ hx5 | with_reducible exact HSK.out _ (ext_trans hx5 (ext_alloc _ _)))
                           case resta4x12 =>
                             clear hK K
                             try simp only [Act.put, List.setIfInBounds_toArray, List.set_cons_zero, List.set_cons_succ]
                             refine wpAnyH_ready (rs := [8]) (by kernel_rfl) (by simp) ?_
                             refine AllReadyH.cons (o := _) rfl (fun K hK => ?sta4x13) ?morea4x13
                             case sta4x13 =>
                               go_simp
                               refine hK.out _ _ ?hSa4x13 (fun hHeld => ?resta4x13)
                               case hSa4x13 => ((try dsimp only); first | with_reducible exact hHeld | with_reducible exact HSK.out _ (ext_drew _) | with_reducible exact HSK.out _ (ext_trans (ext_alloc _ _) (ext_drew _)) | with_reducible exact HSK.out _ (ext_trans (ext_drew _) (ext_alloc _ _)) | with_reducible exact HSK.out _ hx5 | with_reducible exact HSK.out _ (ext_trans hx5 (ext_alloc _ _)))
                               case resta4x13 =>
                                 clear hK K
                                 try simp only [Act.put, List.setIfInBounds_toArray, List.set_cons_zero, List.set_cons_succ]
                                 refine wpAnyH_ready (rs := [9]) (by kernel_rfl) (by simp) ?_
                                 refine AllReadyH.cons (o := _) rfl (fun K hK => ?sta4x14) ?morea4x14
                                 case sta4x14 =>
                                   go_simp
                                   refine hK.out _ _ ?hSa4x14 (fun hHeld => ?resta4x14)
                                   case hSa4x14 => ((try dsimp only); first | with_reducible exact hHeld | with_reducible exact HSK.out _ (ext_drew _) | with_reducible exact HSK.out _ (ext_trans (ext_alloc _ _) (ext_drew _)) | with_reducible exact HSK.out _ (ext_trans (ext_drew _) (ext_alloc _ _)) | with_reducible exact HSK.out _ hx5 | with_reducible exact HSK.out _ (ext_trans hx5 (ext_alloc _ _)))
                                   case resta4x14 =>
                                     clear hK K
                                     try simp only [Act.put, List.setIfInBounds_toArray, List.set_cons_zero, List.set_cons_succ]
                                     refine wpAnyH_done (by kernel_rfl) ?_ _
                                     go_wp2
                                     go_meet
                                     exact ⟨rfl, by first | exact hx5 | (exact hHeld.2.2)⟩
                                 case morea4x14 =>
                                  exact AllReadyH.nil
                             case morea4x13 =>
                              exact AllReadyH.nil
                         case morea4x12 =>
                          exact AllReadyH.nil
                     case morea4x11 =>
                      exact AllReadyH.nil
                case morea4x6 =>
                 refine AllReadyH.cons (o := _) rfl (fun K hK => ?sta4x15) ?morea4x15
                 case sta4x15 =>
                   go_simp
                   go_at_call 60
                   (with_reducible refine (HT1.out _).mono ?_)
                   rintro e w5 ⟨rfl, hb5⟩
                   have hx5 : Below (World.heap V0).size V0 w5 := first_below hb5 (by (first | with_reducible exact ext_drew _ | with_reducible exact ext_trans (ext_alloc _ _) (ext_drew _) | with_reducible exact ext_trans (ext_drew _) (ext_alloc _ _)))
                   have hlc : World.cell? w5 ⟨(World.heap V0).size, 4, none⟩ = some (.string ⟨#[115]⟩) := (hb5.cell (p := ⟨(World.heap V0).size, 4, none⟩) (by simp)).trans (by simp)
                   refine hK.out _ _ ?hSa4x15 (fun hHeld => ?resta4x15)
                   case hSa4x15 => ((try dsimp only); first | with_reducible exact hHeld | with_reducible exact HSK.out _ (ext_drew _) | with_reducible exact HSK.out _ (ext_trans (ext_alloc _ _) (ext_drew _)) | with_reducible exact HSK.out _ (ext_trans (ext_drew _) (ext_alloc _ _)) | with_reducible exact HSK.out _ hx5 | with_reducible exact HSK.out _ (ext_trans hx5 (ext_alloc _ _)))
                   case resta4x15 =>
                     clear hK K
                     try simp only [Act.put, List.setIfInBounds_toArray, List.set_cons_zero, List.set_cons_succ]
                     refine wpAnyH_ready (rs := [3]) (by kernel_rfl) (by simp) ?_
                     refine AllReadyH.cons (o := _) rfl (fun K hK => ?sta4x16) ?morea4x16
                     case sta4x16 =>
                       go_simp
                       refine hK.out _ _ ?hSa4x16 (fun hHeld => ?resta4x16)
                       case hSa4x16 => ((try dsimp only); first | with_reducible exact hHeld | with_reducible exact HSK.out _ (ext_drew _) | with_reducible exact HSK.out _ (ext_trans (ext_alloc _ _) (ext_drew _)) | with_reducible exact HSK.out _ (ext_trans (ext_drew _) (ext_alloc _ _)) | with_reducible exact HSK.out _ hx5 | with_reducible exact HSK.out _ (ext_trans hx5 (ext_alloc _ _)))
                       case resta4x16 =>
                         clear hK K
                         try simp only [Act.put, List.setIfInBounds_toArray, List.set_cons_zero, List.set_cons_succ]
                         refine wpAnyH_ready (rs := [4]) (by kernel_rfl) (by simp) ?_
                         refine AllReadyH.cons (o := _) rfl (fun K hK => ?sta4x17) ?morea4x17
                         case sta4x17 =>
                           go_simp
                           refine hK.out _ _ ?hSa4x17 (fun hHeld => ?resta4x17)
                           case hSa4x17 => ((try dsimp only); first | with_reducible exact hHeld | with_reducible exact HSK.out _ (ext_drew _) | with_reducible exact HSK.out _ (ext_trans (ext_alloc _ _) (ext_drew _)) | with_reducible exact HSK.out _ (ext_trans (ext_drew _) (ext_alloc _ _)) | with_reducible exact HSK.out _ hx5 | with_reducible exact HSK.out _ (ext_trans hx5 (ext_alloc _ _)))
                           case resta4x17 =>
                             clear hK K
                             try simp only [Act.put, List.setIfInBounds_toArray, List.set_cons_zero, List.set_cons_succ]
                             refine wpAnyH_ready (rs := [8]) (by kernel_rfl) (by simp) ?_
                             refine AllReadyH.cons (o := _) rfl (fun K hK => ?sta4x18) ?morea4x18
                             case sta4x18 =>
                               go_simp
                               refine hK.out _ _ ?hSa4x18 (fun hHeld => ?resta4x18)
                               case hSa4x18 => ((try dsimp only); first | with_reducible exact hHeld | with_reducible exact HSK.out _ (ext_drew _) | with_reducible exact HSK.out _ (ext_trans (ext_alloc _ _) (ext_drew _)) | with_reducible exact HSK.out _ (ext_trans (ext_drew _) (ext_alloc _ _)) | with_reducible exact HSK.out _ hx5 | with_reducible exact HSK.out _ (ext_trans hx5 (ext_alloc _ _)))
                               case resta4x18 =>
                                 clear hK K
                                 try simp only [Act.put, List.setIfInBounds_toArray, List.set_cons_zero, List.set_cons_succ]
                                 refine wpAnyH_ready (rs := [9]) (by kernel_rfl) (by simp) ?_
                                 refine AllReadyH.cons (o := _) rfl (fun K hK => ?sta4x19) ?morea4x19
                                 case sta4x19 =>
                                   go_simp
                                   refine hK.out _ _ ?hSa4x19 (fun hHeld => ?resta4x19)
                                   case hSa4x19 => ((try dsimp only); first | with_reducible exact hHeld | with_reducible exact HSK.out _ (ext_drew _) | with_reducible exact HSK.out _ (ext_trans (ext_alloc _ _) (ext_drew _)) | with_reducible exact HSK.out _ (ext_trans (ext_drew _) (ext_alloc _ _)) | with_reducible exact HSK.out _ hx5 | with_reducible exact HSK.out _ (ext_trans hx5 (ext_alloc _ _)))
                                   case resta4x19 =>
                                     clear hK K
                                     try simp only [Act.put, List.setIfInBounds_toArray, List.set_cons_zero, List.set_cons_succ]
                                     refine wpAnyH_done (by kernel_rfl) ?_ _
                                     go_wp2
                                     go_meet
                                     exact ⟨rfl, by first | exact hx5 | (exact hHeld.2.2)⟩
                                 case morea4x19 =>
                                  exact AllReadyH.nil
                             case morea4x18 =>
                              exact AllReadyH.nil
                         case morea4x17 =>
                          exact AllReadyH.nil
                     case morea4x16 =>
                      exact AllReadyH.nil
                 case morea4x15 =>
                  exact AllReadyH.nil
            case morea4x5 =>
             refine AllReadyH.cons (o := _) rfl (fun K hK => ?sta4x20) ?morea4x20
             case sta4x20 =>
               go_simp
               go_at_call 60
               (with_reducible refine (HT1.out _).mono ?_)
               rintro e w5 ⟨rfl, hb5⟩
               have hx5 : Below (World.heap V0).size V0 w5 := first_below hb5 (by (first | with_reducible exact ext_drew _ | with_reducible exact ext_trans (ext_alloc _ _) (ext_drew _) | with_reducible exact ext_trans (ext_drew _) (ext_alloc _ _)))
               refine hK.out _ _ ?hSa4x20 (fun hHeld => ?resta4x20)
               case hSa4x20 => ((try dsimp only); first | with_reducible exact hHeld | with_reducible exact HSK.out _ (ext_drew _) | with_reducible exact HSK.out _ (ext_trans (ext_alloc _ _) (ext_drew _)) | with_reducible exact HSK.out _ (ext_trans (ext_drew _) (ext_alloc _ _)) | with_reducible exact HSK.out _ hx5 | with_reducible exact HSK.out _ (ext_trans hx5 (ext_alloc _ _)))
               case resta4x20 =>
                 clear hK K
                 try simp only [Act.put, List.setIfInBounds_toArray, List.set_cons_zero, List.set_cons_succ]
                 refine wpAnyH_ready (rs := [0]) (by kernel_rfl) (by simp) ?_
                 refine AllReadyH.cons (o := _) rfl (fun K hK => ?sta4x21) ?morea4x21
                 case sta4x21 =>
                   go_simp
                   refine hK.out _ _ ?hSa4x21 (fun hHeld => ?resta4x21)
                   case hSa4x21 => ((try dsimp only); first | with_reducible exact hHeld | with_reducible exact HSK.out _ (ext_drew _) | with_reducible exact HSK.out _ (ext_trans (ext_alloc _ _) (ext_drew _)) | with_reducible exact HSK.out _ (ext_trans (ext_drew _) (ext_alloc _ _)) | with_reducible exact HSK.out _ hx5 | with_reducible exact HSK.out _ (ext_trans hx5 (ext_alloc _ _)))
                   case resta4x21 =>
                     clear hK K
                     try simp only [Act.put, List.setIfInBounds_toArray, List.set_cons_zero, List.set_cons_succ]
                     refine wpAnyH_ready (rs := [3]) (by kernel_rfl) (by simp) ?_
                     refine AllReadyH.cons (o := _) rfl (fun K hK => ?sta4x22) ?morea4x22
                     case sta4x22 =>
                       go_simp
                       refine hK.out _ _ ?hSa4x22 (fun hHeld => ?resta4x22)
                       case hSa4x22 => ((try dsimp only); first | with_reducible exact hHeld | with_reducible exact HSK.out _ (ext_drew _) | with_reducible exact HSK.out _ (ext_trans (ext_alloc _ _) (ext_drew _)) | with_reducible exact HSK.out _ (ext_trans (ext_drew _) (ext_alloc _ _)) | with_reducible exact HSK.out _ hx5 | with_reducible exact HSK.out _ (ext_trans hx5 (ext_alloc _ _)))
                       case resta4x22 =>
                         clear hK K
                         try simp only [Act.put, List.setIfInBounds_toArray, List.set_cons_zero, List.set_cons_succ]
                         refine wpAnyH_ready (rs := [4]) (by kernel_rfl) (by simp) ?_
                         refine AllReadyH.cons (o := _) rfl (fun K hK => ?sta4x23) ?morea4x23
                         case sta4x23 =>
                           go_simp
                           refine hK.out _ _ ?hSa4x23 (fun hHeld => ?resta4x23)
                           case hSa4x23 => ((try dsimp only); first | with_reducible exact hHeld | with_reducible exact HSK.out _ (ext_drew _) | with_reducible exact HSK.out _ (ext_trans (ext_alloc _ _) (ext_drew _)) | with_reducible exact HSK.out _ (ext_trans (ext_drew _) (ext_alloc _ _)) | with_reducible exact HSK.out _ hx5 | with_reducible exact HSK.out _ (ext_trans hx5 (ext_alloc _ _)))
                           case resta4x23 =>
                             clear hK K
                             try simp only [Act.put, List.setIfInBounds_toArray, List.set_cons_zero, List.set_cons_succ]
                             refine wpAnyH_ready (rs := [8]) (by kernel_rfl) (by simp) ?_
                             refine AllReadyH.cons (o := _) rfl (fun K hK => ?sta4x24) ?morea4x24
                             case sta4x24 =>
                               go_simp
                               refine hK.out _ _ ?hSa4x24 (fun hHeld => ?resta4x24)
                               case hSa4x24 => ((try dsimp only); first | with_reducible exact hHeld | with_reducible exact HSK.out _ (ext_drew _) | with_reducible exact HSK.out _ (ext_trans (ext_alloc _ _) (ext_drew _)) | with_reducible exact HSK.out _ (ext_trans (ext_drew _) (ext_alloc _ _)) | with_reducible exact HSK.out _ hx5 | with_reducible exact HSK.out _ (ext_trans hx5 (ext_alloc _ _)))
                               case resta4x24 =>
                                 clear hK K
                                 try simp only [Act.put, List.setIfInBounds_toArray, List.set_cons_zero, List.set_cons_succ]
                                 refine wpAnyH_ready (rs := [9]) (by kernel_rfl) (by simp) ?_
                                 refine AllReadyH.cons (o := _) rfl (fun K hK => ?sta4x25) ?morea4x25
                                 case sta4x25 =>
                                   go_simp
                                   refine hK.out _ _ ?hSa4x25 (fun hHeld => ?resta4x25)
                                   case hSa4x25 => ((try dsimp only); first | with_reducible exact hHeld | with_reducible exact HSK.out _ (ext_drew _) | with_reducible exact HSK.out _ (ext_trans (ext_alloc _ _) (ext_drew _)) | with_reducible exact HSK.out _ (ext_trans (ext_drew _) (ext_alloc _ _)) | with_reducible exact HSK.out _ hx5 | with_reducible exact HSK.out _ (ext_trans hx5 (ext_alloc _ _)))
                                   case resta4x25 =>
                                     clear hK K
                                     try simp only [Act.put, List.setIfInBounds_toArray, List.set_cons_zero, List.set_cons_succ]
                                     refine wpAnyH_done (by kernel_rfl) ?_ _
                                     go_wp2
                                     go_meet
                                     exact ⟨rfl, by first | exact hx5 | (exact hHeld.2.2)⟩
                                 case morea4x25 =>
                                  exact AllReadyH.nil
                             case morea4x24 =>
                              exact AllReadyH.nil
                         case morea4x23 =>
                          exact AllReadyH.nil
                     case morea4x22 =>
                      exact AllReadyH.nil
                 case morea4x21 =>
                  exact AllReadyH.nil
             case morea4x20 =>
              exact AllReadyH.nil
    · have HSK := Lib.hid (fun (w' : World) (hb : Below (World.heap V0).size V0 w') => (show World.cell? w' ⟨w.heap.size, 0, none⟩ = some (.int .i64 5) ∧ World.cell? w' ⟨w.heap.size, 1, none⟩ = some (.int .i64 (u : Int)) ∧ Below (World.heap V0).size V0 w' from ⟨(hb.cell (p := ⟨w.heap.size, 0, none⟩) hyb).trans v0, (hb.cell (p := ⟨w.heap.size, 1, none⟩) hyb).trans v1, hb⟩))
      refine wp_region_held_drew (S := (fun w' => World.cell? w' ⟨w.heap.size, 0, none⟩ = some (.int .i64 5) ∧ World.cell? w' ⟨w.heap.size, 1, none⟩ = some (.int .i64 (u : Int)) ∧ Below (World.heap V0).size V0 w')) (by kernel_rfl) ?hSa5x0 (fun hHeld => ?resta5x0)
      case hSa5x0 => ((try dsimp only); first | with_reducible exact hHeld | with_reducible exact HSK.out _ (ext_drew _) | with_reducible exact HSK.out _ (ext_trans (ext_alloc _ _) (ext_drew _)) | with_reducible exact HSK.out _ (ext_trans (ext_drew _) (ext_alloc _ _)) | with_reducible exact HSK.out _ hx5 | with_reducible exact HSK.out _ (ext_trans hx5 (ext_alloc _ _)))
      case resta5x0 =>
        refine wpAnyH_take (i := 1) (oi := _) (v := ?va5x1) rfl (by kernel_rfl) (by kernel_rfl) (by kernel_rfl) (fun _ _ _ h => h) (Or.inl ⟨by rfl, ?hya5x1⟩) (by assumption) ?resta5x1
        case hya5x1 => ((intro w hSw; (try dsimp only at hSw); go_simp) <;> (with_reducible rfl))
        case resta5x1 =>
         try simp only [Act.put, List.setIfInBounds_toArray, List.set_cons_zero, List.set_cons_succ]
         refine wpAnyH_take (i := 2) (oi := _) (v := ?va5x2) rfl (by kernel_rfl) (by kernel_rfl) (by kernel_rfl) (fun _ _ _ h => h) (Or.inl ⟨by rfl, ?hya5x2⟩) (by assumption) ?resta5x2
         case hya5x2 => ((intro w hSw; (try dsimp only at hSw); go_simp) <;> (with_reducible rfl))
         case resta5x2 =>
          try simp only [Act.put, List.setIfInBounds_toArray, List.set_cons_zero, List.set_cons_succ]
          refine wpAnyH_take (i := 5) (oi := _) (v := ?va5x3) rfl (by kernel_rfl) (by kernel_rfl) (by kernel_rfl) (fun _ _ _ h => h) (Or.inl ⟨by rfl, ?hya5x3⟩) (by assumption) ?resta5x3
          case hya5x3 => ((intro w hSw; (try dsimp only at hSw); go_simp) <;> (with_reducible rfl))
          case resta5x3 =>
           try simp only [Act.put, List.setIfInBounds_toArray, List.set_cons_zero, List.set_cons_succ]
           refine wpAnyH_take (i := 6) (oi := _) (v := ?va5x4) rfl (by kernel_rfl) (by kernel_rfl) (by kernel_rfl) (fun _ _ _ h => h) (Or.inl ⟨by rfl, ?hya5x4⟩) (by assumption) ?resta5x4
           case hya5x4 => ((intro w hSw; (try dsimp only at hSw); go_simp) <;> (with_reducible rfl))
           case resta5x4 =>
            try simp only [Act.put, List.setIfInBounds_toArray, List.set_cons_zero, List.set_cons_succ]
            refine wpAnyH_ready (rs := [0, 7]) (by kernel_rfl) (by simp) ?_
            refine AllReadyH.cons (o := _) rfl (fun K hK => ?sta5x5) ?morea5x5
            case sta5x5 =>
              go_simp
              refine hK.out _ _ ?hSa5x5 (fun hHeld => ?resta5x5)
              case hSa5x5 => ((try dsimp only); first | with_reducible exact hHeld | with_reducible exact HSK.out _ (ext_drew _) | with_reducible exact HSK.out _ (ext_trans (ext_alloc _ _) (ext_drew _)) | with_reducible exact HSK.out _ (ext_trans (ext_drew _) (ext_alloc _ _)) | with_reducible exact HSK.out _ hx5 | with_reducible exact HSK.out _ (ext_trans hx5 (ext_alloc _ _)))
              case resta5x5 =>
                clear hK K
                try simp only [Act.put, List.setIfInBounds_toArray, List.set_cons_zero, List.set_cons_succ]
                refine wpAnyH_ready (rs := [3, 7]) (by kernel_rfl) (by simp) ?_
                refine AllReadyH.cons (o := _) rfl (fun K hK => ?sta5x6) ?morea5x6
                case sta5x6 =>
                  go_simp
                  refine hK.out _ _ ?hSa5x6 (fun hHeld => ?resta5x6)
                  case hSa5x6 => ((try dsimp only); first | with_reducible exact hHeld | with_reducible exact HSK.out _ (ext_drew _) | with_reducible exact HSK.out _ (ext_trans (ext_alloc _ _) (ext_drew _)) | with_reducible exact HSK.out _ (ext_trans (ext_drew _) (ext_alloc _ _)) | with_reducible exact HSK.out _ hx5 | with_reducible exact HSK.out _ (ext_trans hx5 (ext_alloc _ _)))
                  case resta5x6 =>
                    clear hK K
                    try simp only [Act.put, List.setIfInBounds_toArray, List.set_cons_zero, List.set_cons_succ]
                    refine wpAnyH_ready (rs := [4, 7]) (by kernel_rfl) (by simp) ?_
                    refine AllReadyH.cons (o := _) rfl (fun K hK => ?sta5x7) ?morea5x7
                    case sta5x7 =>
                      go_simp
                      refine hK.out _ _ ?hSa5x7 (fun hHeld => ?resta5x7)
                      case hSa5x7 => ((try dsimp only); first | with_reducible exact hHeld | with_reducible exact HSK.out _ (ext_drew _) | with_reducible exact HSK.out _ (ext_trans (ext_alloc _ _) (ext_drew _)) | with_reducible exact HSK.out _ (ext_trans (ext_drew _) (ext_alloc _ _)) | with_reducible exact HSK.out _ hx5 | with_reducible exact HSK.out _ (ext_trans hx5 (ext_alloc _ _)))
                      case resta5x7 =>
                        clear hK K
                        try simp only [Act.put, List.setIfInBounds_toArray, List.set_cons_zero, List.set_cons_succ]
                        refine wpAnyH_ready (rs := [7]) (by kernel_rfl) (by simp) ?_
                        refine AllReadyH.cons (o := _) rfl (fun K hK => ?sta5x8) ?morea5x8
                        case sta5x8 =>
                          go_simp
                          go_at_call 60
                          (with_reducible refine (HT1.out _).mono ?_)
                          rintro e w5 ⟨rfl, hb5⟩
                          have hx5 : Below (World.heap V0).size V0 w5 := first_below hb5 (by (first | with_reducible exact ext_drew _ | with_reducible exact ext_trans (ext_alloc _ _) (ext_drew _) | with_reducible exact ext_trans (ext_drew _) (ext_alloc _ _)))
                          have hlc : World.cell? w5 ⟨(World.heap V0).size, 5, none⟩ = some (.string ⟨#[115, 119]⟩) := (hb5.cell (p := ⟨(World.heap V0).size, 5, none⟩) (by simp)).trans (by simp)
                          refine hK.out _ _ ?hSa5x8 (fun hHeld => ?resta5x8)
                          case hSa5x8 => ((try dsimp only); first | with_reducible exact hHeld | with_reducible exact HSK.out _ (ext_drew _) | with_reducible exact HSK.out _ (ext_trans (ext_alloc _ _) (ext_drew _)) | with_reducible exact HSK.out _ (ext_trans (ext_drew _) (ext_alloc _ _)) | with_reducible exact HSK.out _ hx5 | with_reducible exact HSK.out _ (ext_trans hx5 (ext_alloc _ _)))
                          case resta5x8 =>
                            clear hK K
                            try simp only [Act.put, List.setIfInBounds_toArray, List.set_cons_zero, List.set_cons_succ]
                            refine wpAnyH_ready (rs := [8]) (by kernel_rfl) (by simp) ?_
                            refine AllReadyH.cons (o := _) rfl (fun K hK => ?sta5x9) ?morea5x9
                            case sta5x9 =>
                              go_simp
                              refine hK.out _ _ ?hSa5x9 (fun hHeld => ?resta5x9)
                              case hSa5x9 => ((try dsimp only); first | with_reducible exact hHeld | with_reducible exact HSK.out _ (ext_drew _) | with_reducible exact HSK.out _ (ext_trans (ext_alloc _ _) (ext_drew _)) | with_reducible exact HSK.out _ (ext_trans (ext_drew _) (ext_alloc _ _)) | with_reducible exact HSK.out _ hx5 | with_reducible exact HSK.out _ (ext_trans hx5 (ext_alloc _ _)))
                              case resta5x9 =>
                                clear hK K
                                try simp only [Act.put, List.setIfInBounds_toArray, List.set_cons_zero, List.set_cons_succ]
                                refine wpAnyH_ready (rs := [9]) (by kernel_rfl) (by simp) ?_
                                refine AllReadyH.cons (o := _) rfl (fun K hK => ?sta5x10) ?morea5x10
                                case sta5x10 =>
                                  go_simp
                                  refine hK.out _ _ ?hSa5x10 (fun hHeld => ?resta5x10)
                                  case hSa5x10 => ((try dsimp only); first | with_reducible exact hHeld | with_reducible exact HSK.out _ (ext_drew _) | with_reducible exact HSK.out _ (ext_trans (ext_alloc _ _) (ext_drew _)) | with_reducible exact HSK.out _ (ext_trans (ext_drew _) (ext_alloc _ _)) | with_reducible exact HSK.out _ hx5 | with_reducible exact HSK.out _ (ext_trans hx5 (ext_alloc _ _)))
                                  case resta5x10 =>
                                    clear hK K
                                    try simp only [Act.put, List.setIfInBounds_toArray, List.set_cons_zero, List.set_cons_succ]
                                    refine wpAnyH_done (by kernel_rfl) ?_ _
                                    go_wp2
                                    go_meet
                                    exact ⟨rfl, by first | exact hx5 | (exact hHeld.2.2)⟩
                                case morea5x10 =>
                                 exact AllReadyH.nil
                            case morea5x9 =>
                             exact AllReadyH.nil
                        case morea5x8 =>
                         exact AllReadyH.nil
                    case morea5x7 =>
                     refine AllReadyH.cons (o := _) rfl (fun K hK => ?sta5x11) ?morea5x11
                     case sta5x11 =>
                       go_simp
                       go_at_call 60
                       (with_reducible refine (HT1.out _).mono ?_)
                       rintro e w5 ⟨rfl, hb5⟩
                       have hx5 : Below (World.heap V0).size V0 w5 := first_below hb5 (by (first | with_reducible exact ext_drew _ | with_reducible exact ext_trans (ext_alloc _ _) (ext_drew _) | with_reducible exact ext_trans (ext_drew _) (ext_alloc _ _)))
                       have hlc : World.cell? w5 ⟨(World.heap V0).size, 5, none⟩ = some (.string ⟨#[115, 119]⟩) := (hb5.cell (p := ⟨(World.heap V0).size, 5, none⟩) (by simp)).trans (by simp)
                       refine hK.out _ _ ?hSa5x11 (fun hHeld => ?resta5x11)
                       case hSa5x11 => ((try dsimp only); first | with_reducible exact hHeld | with_reducible exact HSK.out _ (ext_drew _) | with_reducible exact HSK.out _ (ext_trans (ext_alloc _ _) (ext_drew _)) | with_reducible exact HSK.out _ (ext_trans (ext_drew _) (ext_alloc _ _)) | with_reducible exact HSK.out _ hx5 | with_reducible exact HSK.out _ (ext_trans hx5 (ext_alloc _ _)))
                       case resta5x11 =>
                         clear hK K
                         try simp only [Act.put, List.setIfInBounds_toArray, List.set_cons_zero, List.set_cons_succ]
                         refine wpAnyH_ready (rs := [4]) (by kernel_rfl) (by simp) ?_
                         refine AllReadyH.cons (o := _) rfl (fun K hK => ?sta5x12) ?morea5x12
                         case sta5x12 =>
                           go_simp
                           refine hK.out _ _ ?hSa5x12 (fun hHeld => ?resta5x12)
                           case hSa5x12 => ((try dsimp only); first | with_reducible exact hHeld | with_reducible exact HSK.out _ (ext_drew _) | with_reducible exact HSK.out _ (ext_trans (ext_alloc _ _) (ext_drew _)) | with_reducible exact HSK.out _ (ext_trans (ext_drew _) (ext_alloc _ _)) | with_reducible exact HSK.out _ hx5 | with_reducible exact HSK.out _ (ext_trans hx5 (ext_alloc _ _)))
                           case resta5x12 =>
                             clear hK K
                             try simp only [Act.put, List.setIfInBounds_toArray, List.set_cons_zero, List.set_cons_succ]
                             refine wpAnyH_ready (rs := [8]) (by kernel_rfl) (by simp) ?_
                             refine AllReadyH.cons (o := _) rfl (fun K hK => ?sta5x13) ?morea5x13
                             case sta5x13 =>
                               go_simp
                               refine hK.out _ _ ?hSa5x13 (fun hHeld => ?resta5x13)
                               case hSa5x13 => ((try dsimp only); first | with_reducible exact hHeld | with_reducible exact HSK.out _ (ext_drew _) | with_reducible exact HSK.out _ (ext_trans (ext_alloc _ _) (ext_drew _)) | with_reducible exact HSK.out _ (ext_trans (ext_drew _) (ext_alloc _ _)) | with_reducible exact HSK.out _ hx5 | with_reducible exact HSK.out _ (ext_trans hx5 (ext_alloc _ _)))
                               case resta5x13 =>
                                 clear hK K
                                 try simp only [Act.put, List.setIfInBounds_toArray, List.set_cons_zero, List.set_cons_succ]
                                 refine wpAnyH_ready (rs := [9]) (by kernel_rfl) (by simp) ?_
                                 refine AllReadyH.cons (o := _) rfl (fun K hK => ?sta5x14) ?morea5x14
                                 case sta5x14 =>
                                   go_simp
                                   refine hK.out _ _ ?hSa5x14 (fun hHeld => ?resta5x14)
                                   case hSa5x14 => ((try dsimp only); first | with_reducible exact hHeld | with_reducible exact HSK.out _ (ext_drew _) | with_reducible exact HSK.out _ (ext_trans (ext_alloc _ _) (ext_drew _)) | with_reducible exact HSK.out _ (ext_trans (ext_drew _) (ext_alloc _ _)) | with_reducible exact HSK.out _ hx5 | with_reducible exact HSK.out _ (ext_trans hx5 (ext_alloc _ _)))
                                   case resta5x14 =>
                                     clear hK K
                                     try simp only [Act.put, List.setIfInBounds_toArray, List.set_cons_zero, List.set_cons_succ]
                                     refine wpAnyH_done (by kernel_rfl) ?_ _
                                     go_wp2
                                     go_meet
                                     exact ⟨rfl, by first | exact hx5 | (exact hHeld.2.2)⟩
                                 case morea5x14 =>
                                  exact AllReadyH.nil
                             case morea5x13 =>
                              exact AllReadyH.nil
                         case morea5x12 =>
                          exact AllReadyH.nil
                     case morea5x11 =>
                      exact AllReadyH.nil
                case morea5x6 =>
                 refine AllReadyH.cons (o := _) rfl (fun K hK => ?sta5x15) ?morea5x15
                 case sta5x15 =>
                   go_simp
                   go_at_call 60
                   (with_reducible refine (HT1.out _).mono ?_)
                   rintro e w5 ⟨rfl, hb5⟩
                   have hx5 : Below (World.heap V0).size V0 w5 := first_below hb5 (by (first | with_reducible exact ext_drew _ | with_reducible exact ext_trans (ext_alloc _ _) (ext_drew _) | with_reducible exact ext_trans (ext_drew _) (ext_alloc _ _)))
                   have hlc : World.cell? w5 ⟨(World.heap V0).size, 5, none⟩ = some (.string ⟨#[115, 119]⟩) := (hb5.cell (p := ⟨(World.heap V0).size, 5, none⟩) (by simp)).trans (by simp)
                   refine hK.out _ _ ?hSa5x15 (fun hHeld => ?resta5x15)
                   case hSa5x15 => ((try dsimp only); first | with_reducible exact hHeld | with_reducible exact HSK.out _ (ext_drew _) | with_reducible exact HSK.out _ (ext_trans (ext_alloc _ _) (ext_drew _)) | with_reducible exact HSK.out _ (ext_trans (ext_drew _) (ext_alloc _ _)) | with_reducible exact HSK.out _ hx5 | with_reducible exact HSK.out _ (ext_trans hx5 (ext_alloc _ _)))
                   case resta5x15 =>
                     clear hK K
                     try simp only [Act.put, List.setIfInBounds_toArray, List.set_cons_zero, List.set_cons_succ]
                     refine wpAnyH_ready (rs := [3]) (by kernel_rfl) (by simp) ?_
                     refine AllReadyH.cons (o := _) rfl (fun K hK => ?sta5x16) ?morea5x16
                     case sta5x16 =>
                       go_simp
                       refine hK.out _ _ ?hSa5x16 (fun hHeld => ?resta5x16)
                       case hSa5x16 => ((try dsimp only); first | with_reducible exact hHeld | with_reducible exact HSK.out _ (ext_drew _) | with_reducible exact HSK.out _ (ext_trans (ext_alloc _ _) (ext_drew _)) | with_reducible exact HSK.out _ (ext_trans (ext_drew _) (ext_alloc _ _)) | with_reducible exact HSK.out _ hx5 | with_reducible exact HSK.out _ (ext_trans hx5 (ext_alloc _ _)))
                       case resta5x16 =>
                         clear hK K
                         try simp only [Act.put, List.setIfInBounds_toArray, List.set_cons_zero, List.set_cons_succ]
                         refine wpAnyH_ready (rs := [4]) (by kernel_rfl) (by simp) ?_
                         refine AllReadyH.cons (o := _) rfl (fun K hK => ?sta5x17) ?morea5x17
                         case sta5x17 =>
                           go_simp
                           refine hK.out _ _ ?hSa5x17 (fun hHeld => ?resta5x17)
                           case hSa5x17 => ((try dsimp only); first | with_reducible exact hHeld | with_reducible exact HSK.out _ (ext_drew _) | with_reducible exact HSK.out _ (ext_trans (ext_alloc _ _) (ext_drew _)) | with_reducible exact HSK.out _ (ext_trans (ext_drew _) (ext_alloc _ _)) | with_reducible exact HSK.out _ hx5 | with_reducible exact HSK.out _ (ext_trans hx5 (ext_alloc _ _)))
                           case resta5x17 =>
                             clear hK K
                             try simp only [Act.put, List.setIfInBounds_toArray, List.set_cons_zero, List.set_cons_succ]
                             refine wpAnyH_ready (rs := [8]) (by kernel_rfl) (by simp) ?_
                             refine AllReadyH.cons (o := _) rfl (fun K hK => ?sta5x18) ?morea5x18
                             case sta5x18 =>
                               go_simp
                               refine hK.out _ _ ?hSa5x18 (fun hHeld => ?resta5x18)
                               case hSa5x18 => ((try dsimp only); first | with_reducible exact hHeld | with_reducible exact HSK.out _ (ext_drew _) | with_reducible exact HSK.out _ (ext_trans (ext_alloc _ _) (ext_drew _)) | with_reducible exact HSK.out _ (ext_trans (ext_drew _) (ext_alloc _ _)) | with_reducible exact HSK.out _ hx5 | with_reducible exact HSK.out _ (ext_trans hx5 (ext_alloc _ _)))
                               case resta5x18 =>
                                 clear hK K
                                 try simp only [Act.put, List.setIfInBounds_toArray, List.set_cons_zero, List.set_cons_succ]
                                 refine wpAnyH_ready (rs := [9]) (by kernel_rfl) (by simp) ?_
                                 refine AllReadyH.cons (o := _) rfl (fun K hK => ?sta5x19) ?morea5x19
                                 case sta5x19 =>
                                   go_simp
                                   refine hK.out _ _ ?hSa5x19 (fun hHeld => ?resta5x19)
                                   case hSa5x19 => ((try dsimp only); first | with_reducible exact hHeld | with_reducible exact HSK.out _ (ext_drew _) | with_reducible exact HSK.out _ (ext_trans (ext_alloc _ _) (ext_drew _)) | with_reducible exact HSK.out _ (ext_trans (ext_drew _) (ext_alloc _ _)) | with_reducible exact HSK.out _ hx5 | with_reducible exact HSK.out _ (ext_trans hx5 (ext_alloc _ _)))
                                   case resta5x19 =>
                                     clear hK K
                                     try simp only [Act.put, List.setIfInBounds_toArray, List.set_cons_zero, List.set_cons_succ]
                                     refine wpAnyH_done (by kernel_rfl) ?_ _
                                     go_wp2
                                     go_meet
                                     exact ⟨rfl, by first | exact hx5 | (exact hHeld.2.2)⟩
                                 case morea5x19 =>
                                  exact AllReadyH.nil
                             case morea5x18 =>
                              exact AllReadyH.nil
                         case morea5x17 =>
                          exact AllReadyH.nil
                     case morea5x16 =>
                      exact AllReadyH.nil
                 case morea5x15 =>
                  exact AllReadyH.nil
            case morea5x5 =>
             refine AllReadyH.cons (o := _) rfl (fun K hK => ?sta5x20) ?morea5x20
             case sta5x20 =>
               go_simp
               go_at_call 60
               (with_reducible refine (HT1.out _).mono ?_)
               rintro e w5 ⟨rfl, hb5⟩
               have hx5 : Below (World.heap V0).size V0 w5 := first_below hb5 (by (first | with_reducible exact ext_drew _ | with_reducible exact ext_trans (ext_alloc _ _) (ext_drew _) | with_reducible exact ext_trans (ext_drew _) (ext_alloc _ _)))
               refine hK.out _ _ ?hSa5x20 (fun hHeld => ?resta5x20)
               case hSa5x20 => ((try dsimp only); first | with_reducible exact hHeld | with_reducible exact HSK.out _ (ext_drew _) | with_reducible exact HSK.out _ (ext_trans (ext_alloc _ _) (ext_drew _)) | with_reducible exact HSK.out _ (ext_trans (ext_drew _) (ext_alloc _ _)) | with_reducible exact HSK.out _ hx5 | with_reducible exact HSK.out _ (ext_trans hx5 (ext_alloc _ _)))
               case resta5x20 =>
                 clear hK K
                 try simp only [Act.put, List.setIfInBounds_toArray, List.set_cons_zero, List.set_cons_succ]
                 refine wpAnyH_ready (rs := [0]) (by kernel_rfl) (by simp) ?_
                 refine AllReadyH.cons (o := _) rfl (fun K hK => ?sta5x21) ?morea5x21
                 case sta5x21 =>
                   go_simp
                   refine hK.out _ _ ?hSa5x21 (fun hHeld => ?resta5x21)
                   case hSa5x21 => ((try dsimp only); first | with_reducible exact hHeld | with_reducible exact HSK.out _ (ext_drew _) | with_reducible exact HSK.out _ (ext_trans (ext_alloc _ _) (ext_drew _)) | with_reducible exact HSK.out _ (ext_trans (ext_drew _) (ext_alloc _ _)) | with_reducible exact HSK.out _ hx5 | with_reducible exact HSK.out _ (ext_trans hx5 (ext_alloc _ _)))
                   case resta5x21 =>
                     clear hK K
                     try simp only [Act.put, List.setIfInBounds_toArray, List.set_cons_zero, List.set_cons_succ]
                     refine wpAnyH_ready (rs := [3]) (by kernel_rfl) (by simp) ?_
                     refine AllReadyH.cons (o := _) rfl (fun K hK => ?sta5x22) ?morea5x22
                     case sta5x22 =>
                       go_simp
                       refine hK.out _ _ ?hSa5x22 (fun hHeld => ?resta5x22)
                       case hSa5x22 => ((try dsimp only); first | with_reducible exact hHeld | with_reducible exact HSK.out _ (ext_drew _) | with_reducible exact HSK.out _ (ext_trans (ext_alloc _ _) (ext_drew _)) | with_reducible exact HSK.out _ (ext_trans (ext_drew _) (ext_alloc _ _)) | with_reducible exact HSK.out _ hx5 | with_reducible exact HSK.out _ (ext_trans hx5 (ext_alloc _ _)))
                       case resta5x22 =>
                         clear hK K
                         try simp only [Act.put, List.setIfInBounds_toArray, List.set_cons_zero, List.set_cons_succ]
                         refine wpAnyH_ready (rs := [4]) (by kernel_rfl) (by simp) ?_
                         refine AllReadyH.cons (o := _) rfl (fun K hK => ?sta5x23) ?morea5x23
                         case sta5x23 =>
                           go_simp
                           refine hK.out _ _ ?hSa5x23 (fun hHeld => ?resta5x23)
                           case hSa5x23 => ((try dsimp only); first | with_reducible exact hHeld | with_reducible exact HSK.out _ (ext_drew _) | with_reducible exact HSK.out _ (ext_trans (ext_alloc _ _) (ext_drew _)) | with_reducible exact HSK.out _ (ext_trans (ext_drew _) (ext_alloc _ _)) | with_reducible exact HSK.out _ hx5 | with_reducible exact HSK.out _ (ext_trans hx5 (ext_alloc _ _)))
                           case resta5x23 =>
                             clear hK K
                             try simp only [Act.put, List.setIfInBounds_toArray, List.set_cons_zero, List.set_cons_succ]
                             refine wpAnyH_ready (rs := [8]) (by kernel_rfl) (by simp) ?_
                             refine AllReadyH.cons (o := _) rfl (fun K hK => ?sta5x24) ?morea5x24
                             case sta5x24 =>
                               go_simp
                               refine hK.out _ _ ?hSa5x24 (fun hHeld => ?resta5x24)
                               case hSa5x24 => ((try dsimp only); first | with_reducible exact hHeld | with_reducible exact HSK.out _ (ext_drew _) | with_reducible exact HSK.out _ (ext_trans (ext_alloc _ _) (ext_drew _)) | with_reducible exact HSK.out _ (ext_trans (ext_drew _) (ext_alloc _ _)) | with_reducible exact HSK.out _ hx5 | with_reducible exact HSK.out _ (ext_trans hx5 (ext_alloc _ _)))
                               case resta5x24 =>
                                 clear hK K
                                 try simp only [Act.put, List.setIfInBounds_toArray, List.set_cons_zero, List.set_cons_succ]
                                 refine wpAnyH_ready (rs := [9]) (by kernel_rfl) (by simp) ?_
                                 refine AllReadyH.cons (o := _) rfl (fun K hK => ?sta5x25) ?morea5x25
                                 case sta5x25 =>
                                   go_simp
                                   refine hK.out _ _ ?hSa5x25 (fun hHeld => ?resta5x25)
                                   case hSa5x25 => ((try dsimp only); first | with_reducible exact hHeld | with_reducible exact HSK.out _ (ext_drew _) | with_reducible exact HSK.out _ (ext_trans (ext_alloc _ _) (ext_drew _)) | with_reducible exact HSK.out _ (ext_trans (ext_drew _) (ext_alloc _ _)) | with_reducible exact HSK.out _ hx5 | with_reducible exact HSK.out _ (ext_trans hx5 (ext_alloc _ _)))
                                   case resta5x25 =>
                                     clear hK K
                                     try simp only [Act.put, List.setIfInBounds_toArray, List.set_cons_zero, List.set_cons_succ]
                                     refine wpAnyH_done (by kernel_rfl) ?_ _
                                     go_wp2
                                     go_meet
                                     exact ⟨rfl, by first | exact hx5 | (exact hHeld.2.2)⟩
                                 case morea5x25 =>
                                  exact AllReadyH.nil
                             case morea5x24 =>
                              exact AllReadyH.nil
                         case morea5x23 =>
                          exact AllReadyH.nil
                     case morea5x22 =>
                      exact AllReadyH.nil
                 case morea5x21 =>
                  exact AllReadyH.nil
             case morea5x20 =>
              exact AllReadyH.nil
    · have HSK := Lib.hid (fun (w' : World) (hb : Below (World.heap V0).size V0 w') => (show World.cell? w' ⟨w.heap.size, 0, none⟩ = some (.int .i64 6) ∧ World.cell? w' ⟨w.heap.size, 1, none⟩ = some (.int .i64 (u : Int)) ∧ Below (World.heap V0).size V0 w' from ⟨(hb.cell (p := ⟨w.heap.size, 0, none⟩) hyb).trans v0, (hb.cell (p := ⟨w.heap.size, 1, none⟩) hyb).trans v1, hb⟩))
      refine wp_region_held_drew (S := (fun w' => World.cell? w' ⟨w.heap.size, 0, none⟩ = some (.int .i64 6) ∧ World.cell? w' ⟨w.heap.size, 1, none⟩ = some (.int .i64 (u : Int)) ∧ Below (World.heap V0).size V0 w')) (by kernel_rfl) ?hSa6x0 (fun hHeld => ?resta6x0)
      case hSa6x0 => ((try dsimp only); first | with_reducible exact hHeld | with_reducible exact HSK.out _ (ext_drew _) | with_reducible exact HSK.out _ (ext_trans (ext_alloc _ _) (ext_drew _)) | with_reducible exact HSK.out _ (ext_trans (ext_drew _) (ext_alloc _ _)) | with_reducible exact HSK.out _ hx5 | with_reducible exact HSK.out _ (ext_trans hx5 (ext_alloc _ _)))
      case resta6x0 =>
        refine wpAnyH_take (i := 1) (oi := _) (v := ?va6x1) rfl (by kernel_rfl) (by kernel_rfl) (by kernel_rfl) (fun _ _ _ h => h) (Or.inl ⟨by rfl, ?hya6x1⟩) (by assumption) ?resta6x1
        case hya6x1 => ((intro w hSw; (try dsimp only at hSw); go_simp) <;> (with_reducible rfl))
        case resta6x1 =>
         try simp only [Act.put, List.setIfInBounds_toArray, List.set_cons_zero, List.set_cons_succ]
         refine wpAnyH_take (i := 2) (oi := _) (v := ?va6x2) rfl (by kernel_rfl) (by kernel_rfl) (by kernel_rfl) (fun _ _ _ h => h) (Or.inl ⟨by rfl, ?hya6x2⟩) (by assumption) ?resta6x2
         case hya6x2 => ((intro w hSw; (try dsimp only at hSw); go_simp) <;> (with_reducible rfl))
         case resta6x2 =>
          try simp only [Act.put, List.setIfInBounds_toArray, List.set_cons_zero, List.set_cons_succ]
          refine wpAnyH_take (i := 5) (oi := _) (v := ?va6x3) rfl (by kernel_rfl) (by kernel_rfl) (by kernel_rfl) (fun _ _ _ h => h) (Or.inl ⟨by rfl, ?hya6x3⟩) (by assumption) ?resta6x3
          case hya6x3 => ((intro w hSw; (try dsimp only at hSw); go_simp) <;> (with_reducible rfl))
          case resta6x3 =>
           try simp only [Act.put, List.setIfInBounds_toArray, List.set_cons_zero, List.set_cons_succ]
           refine wpAnyH_take (i := 6) (oi := _) (v := ?va6x4) rfl (by kernel_rfl) (by kernel_rfl) (by kernel_rfl) (fun _ _ _ h => h) (Or.inl ⟨by rfl, ?hya6x4⟩) (by assumption) ?resta6x4
           case hya6x4 => ((intro w hSw; (try dsimp only at hSw); go_simp) <;> (with_reducible rfl))
           case resta6x4 =>
            try simp only [Act.put, List.setIfInBounds_toArray, List.set_cons_zero, List.set_cons_succ]
            refine wpAnyH_ready (rs := [0, 7]) (by kernel_rfl) (by simp) ?_
            refine AllReadyH.cons (o := _) rfl (fun K hK => ?sta6x5) ?morea6x5
            case sta6x5 =>
              go_simp
              refine hK.out _ _ ?hSa6x5 (fun hHeld => ?resta6x5)
              case hSa6x5 => ((try dsimp only); first | with_reducible exact hHeld | with_reducible exact HSK.out _ (ext_drew _) | with_reducible exact HSK.out _ (ext_trans (ext_alloc _ _) (ext_drew _)) | with_reducible exact HSK.out _ (ext_trans (ext_drew _) (ext_alloc _ _)) | with_reducible exact HSK.out _ hx5 | with_reducible exact HSK.out _ (ext_trans hx5 (ext_alloc _ _)))
              case resta6x5 =>
                clear hK K
                try simp only [Act.put, List.setIfInBounds_toArray, List.set_cons_zero, List.set_cons_succ]
                refine wpAnyH_ready (rs := [3, 7]) (by kernel_rfl) (by simp) ?_
                refine AllReadyH.cons (o := _) rfl (fun K hK => ?sta6x6) ?morea6x6
                case sta6x6 =>
                  go_simp
                  refine hK.out _ _ ?hSa6x6 (fun hHeld => ?resta6x6)
                  case hSa6x6 => ((try dsimp only); first | with_reducible exact hHeld | with_reducible exact HSK.out _ (ext_drew _) | with_reducible exact HSK.out _ (ext_trans (ext_alloc _ _) (ext_drew _)) | with_reducible exact HSK.out _ (ext_trans (ext_drew _) (ext_alloc _ _)) | with_reducible exact HSK.out _ hx5 | with_reducible exact HSK.out _ (ext_trans hx5 (ext_alloc _ _)))
                  case resta6x6 =>
                    clear hK K
                    try simp only [Act.put, List.setIfInBounds_toArray, List.set_cons_zero, List.set_cons_succ]
                    refine wpAnyH_ready (rs := [4, 7]) (by kernel_rfl) (by simp) ?_
                    refine AllReadyH.cons (o := _) rfl (fun K hK => ?sta6x7) ?morea6x7
                    case sta6x7 =>
                      go_simp
                      refine hK.out _ _ ?hSa6x7 (fun hHeld => ?resta6x7)
                      case hSa6x7 => ((try dsimp only); first | with_reducible exact hHeld | with_reducible exact HSK.out _ (ext_drew _) | with_reducible exact HSK.out _ (ext_trans (ext_alloc _ _) (ext_drew _)) | with_reducible exact HSK.out _ (ext_trans (ext_drew _) (ext_alloc _ _)) | with_reducible exact HSK.out _ hx5 | with_reducible exact HSK.out _ (ext_trans hx5 (ext_alloc _ _)))
                      case resta6x7 =>
                        clear hK K
                        try simp only [Act.put, List.setIfInBounds_toArray, List.set_cons_zero, List.set_cons_succ]
                        refine wpAnyH_ready (rs := [7]) (by kernel_rfl) (by simp) ?_
                        refine AllReadyH.cons (o := _) rfl (fun K hK => ?sta6x8) ?morea6x8
                        case sta6x8 =>
                          go_simp
                          go_at_call 60
                          (with_reducible refine (HT1.out _).mono ?_)
                          rintro e w5 ⟨rfl, hb5⟩
                          have hx5 : Below (World.heap V0).size V0 w5 := first_below hb5 (by (first | with_reducible exact ext_drew _ | with_reducible exact ext_trans (ext_alloc _ _) (ext_drew _) | with_reducible exact ext_trans (ext_drew _) (ext_alloc _ _)))
                          have hlc : World.cell? w5 ⟨(World.heap V0).size, 6, none⟩ = some (.string ⟨#[119]⟩) := (hb5.cell (p := ⟨(World.heap V0).size, 6, none⟩) (by simp)).trans (by simp)
                          refine hK.out _ _ ?hSa6x8 (fun hHeld => ?resta6x8)
                          case hSa6x8 => ((try dsimp only); first | with_reducible exact hHeld | with_reducible exact HSK.out _ (ext_drew _) | with_reducible exact HSK.out _ (ext_trans (ext_alloc _ _) (ext_drew _)) | with_reducible exact HSK.out _ (ext_trans (ext_drew _) (ext_alloc _ _)) | with_reducible exact HSK.out _ hx5 | with_reducible exact HSK.out _ (ext_trans hx5 (ext_alloc _ _)))
                          case resta6x8 =>
                            clear hK K
                            try simp only [Act.put, List.setIfInBounds_toArray, List.set_cons_zero, List.set_cons_succ]
                            refine wpAnyH_ready (rs := [8]) (by kernel_rfl) (by simp) ?_
                            refine AllReadyH.cons (o := _) rfl (fun K hK => ?sta6x9) ?morea6x9
                            case sta6x9 =>
                              go_simp
                              refine hK.out _ _ ?hSa6x9 (fun hHeld => ?resta6x9)
                              case hSa6x9 => ((try dsimp only); first | with_reducible exact hHeld | with_reducible exact HSK.out _ (ext_drew _) | with_reducible exact HSK.out _ (ext_trans (ext_alloc _ _) (ext_drew _)) | with_reducible exact HSK.out _ (ext_trans (ext_drew _) (ext_alloc _ _)) | with_reducible exact HSK.out _ hx5 | with_reducible exact HSK.out _ (ext_trans hx5 (ext_alloc _ _)))
                              case resta6x9 =>
                                clear hK K
                                try simp only [Act.put, List.setIfInBounds_toArray, List.set_cons_zero, List.set_cons_succ]
                                refine wpAnyH_ready (rs := [9]) (by kernel_rfl) (by simp) ?_
                                refine AllReadyH.cons (o := _) rfl (fun K hK => ?sta6x10) ?morea6x10
                                case sta6x10 =>
                                  go_simp
                                  refine hK.out _ _ ?hSa6x10 (fun hHeld => ?resta6x10)
                                  case hSa6x10 => ((try dsimp only); first | with_reducible exact hHeld | with_reducible exact HSK.out _ (ext_drew _) | with_reducible exact HSK.out _ (ext_trans (ext_alloc _ _) (ext_drew _)) | with_reducible exact HSK.out _ (ext_trans (ext_drew _) (ext_alloc _ _)) | with_reducible exact HSK.out _ hx5 | with_reducible exact HSK.out _ (ext_trans hx5 (ext_alloc _ _)))
                                  case resta6x10 =>
                                    clear hK K
                                    try simp only [Act.put, List.setIfInBounds_toArray, List.set_cons_zero, List.set_cons_succ]
                                    refine wpAnyH_done (by kernel_rfl) ?_ _
                                    go_wp2
                                    go_meet
                                    exact ⟨rfl, by first | exact hx5 | (exact hHeld.2.2)⟩
                                case morea6x10 =>
                                 exact AllReadyH.nil
                            case morea6x9 =>
                             exact AllReadyH.nil
                        case morea6x8 =>
                         exact AllReadyH.nil
                    case morea6x7 =>
                     refine AllReadyH.cons (o := _) rfl (fun K hK => ?sta6x11) ?morea6x11
                     case sta6x11 =>
                       go_simp
                       go_at_call 60
                       (with_reducible refine (HT1.out _).mono ?_)
                       rintro e w5 ⟨rfl, hb5⟩
                       have hx5 : Below (World.heap V0).size V0 w5 := first_below hb5 (by (first | with_reducible exact ext_drew _ | with_reducible exact ext_trans (ext_alloc _ _) (ext_drew _) | with_reducible exact ext_trans (ext_drew _) (ext_alloc _ _)))
                       have hlc : World.cell? w5 ⟨(World.heap V0).size, 6, none⟩ = some (.string ⟨#[119]⟩) := (hb5.cell (p := ⟨(World.heap V0).size, 6, none⟩) (by simp)).trans (by simp)
                       refine hK.out _ _ ?hSa6x11 (fun hHeld => ?resta6x11)
                       case hSa6x11 => ((try dsimp only); first | with_reducible exact hHeld | with_reducible exact HSK.out _ (ext_drew _) | with_reducible exact HSK.out _ (ext_trans (ext_alloc _ _) (ext_drew _)) | with_reducible exact HSK.out _ (ext_trans (ext_drew _) (ext_alloc _ _)) | with_reducible exact HSK.out _ hx5 | with_reducible exact HSK.out _ (ext_trans hx5 (ext_alloc _ _)))
                       case resta6x11 =>
                         clear hK K
                         try simp only [Act.put, List.setIfInBounds_toArray, List.set_cons_zero, List.set_cons_succ]
                         refine wpAnyH_ready (rs := [4]) (by kernel_rfl) (by simp) ?_
                         refine AllReadyH.cons (o := _) rfl (fun K hK => ?sta6x12) ?morea6x12
                         case sta6x12 =>
                           go_simp
                           refine hK.out _ _ ?hSa6x12 (fun hHeld => ?resta6x12)
                           case hSa6x12 => ((try dsimp only); first | with_reducible exact hHeld | with_reducible exact HSK.out _ (ext_drew _) | with_reducible exact HSK.out _ (ext_trans (ext_alloc _ _) (ext_drew _)) | with_reducible exact HSK.out _ (ext_trans (ext_drew _) (ext_alloc _ _)) | with_reducible exact HSK.out _ hx5 | with_reducible exact HSK.out _ (ext_trans hx5 (ext_alloc _ _)))
                           case resta6x12 =>
                             clear hK K
                             try simp only [Act.put, List.setIfInBounds_toArray, List.set_cons_zero, List.set_cons_succ]
                             refine wpAnyH_ready (rs := [8]) (by kernel_rfl) (by simp) ?_
                             refine AllReadyH.cons (o := _) rfl (fun K hK => ?sta6x13) ?morea6x13
                             case sta6x13 =>
                               go_simp
                               refine hK.out _ _ ?hSa6x13 (fun hHeld => ?resta6x13)
                               case hSa6x13 => ((try dsimp only); first | with_reducible exact hHeld | with_reducible exact HSK.out _ (ext_drew _) | with_reducible exact HSK.out _ (ext_trans (ext_alloc _ _) (ext_drew _)) | with_reducible exact HSK.out _ (ext_trans (ext_drew _) (ext_alloc _ _)) | with_reducible exact HSK.out _ hx5 | with_reducible exact HSK.out _ (ext_trans hx5 (ext_alloc _ _)))
                               case resta6x13 =>
                                 clear hK K
                                 try simp only [Act.put, List.setIfInBounds_toArray, List.set_cons_zero, List.set_cons_succ]
                                 refine wpAnyH_ready (rs := [9]) (by kernel_rfl) (by simp) ?_
                                 refine AllReadyH.cons (o := _) rfl (fun K hK => ?sta6x14) ?morea6x14
                                 case sta6x14 =>
                                   go_simp
                                   refine hK.out _ _ ?hSa6x14 (fun hHeld => ?resta6x14)
                                   case hSa6x14 => ((try dsimp only); first | with_reducible exact hHeld | with_reducible exact HSK.out _ (ext_drew _) | with_reducible exact HSK.out _ (ext_trans (ext_alloc _ _) (ext_drew _)) | with_reducible exact HSK.out _ (ext_trans (ext_drew _) (ext_alloc _ _)) | with_reducible exact HSK.out _ hx5 | with_reducible exact HSK.out _ (ext_trans hx5 (ext_alloc _ _)))
                                   case resta6x14 =>
                                     clear hK K
                                     try simp only [Act.put, List.setIfInBounds_toArray, List.set_cons_zero, List.set_cons_succ]
                                     refine wpAnyH_done (by kernel_rfl) ?_ _
                                     go_wp2
                                     go_meet
                                     exact ⟨rfl, by first | exact hx5 | (exact hHeld.2.2)⟩
                                 case morea6x14 =>
                                  exact AllReadyH.nil
                             case morea6x13 =>
                              exact AllReadyH.nil
                         case morea6x12 =>
                          exact AllReadyH.nil
                     case morea6x11 =>
                      exact AllReadyH.nil
                case morea6x6 =>
                 refine AllReadyH.cons (o := _) rfl (fun K hK => ?sta6x15) ?morea6x15
                 case sta6x15 =>
                   go_simp
                   go_at_call 60
                   (with_reducible refine (HT1.out _).mono ?_)
                   rintro e w5 ⟨rfl, hb5⟩
                   have hx5 : Below (World.heap V0).size V0 w5 := first_below hb5 (by (first | with_reducible exact ext_drew _ | with_reducible exact ext_trans (ext_alloc _ _) (ext_drew _) | with_reducible exact ext_trans (ext_drew _) (ext_alloc _ _)))
                   have hlc : World.cell? w5 ⟨(World.heap V0).size, 6, none⟩ = some (.string ⟨#[119]⟩) := (hb5.cell (p := ⟨(World.heap V0).size, 6, none⟩) (by simp)).trans (by simp)
                   refine hK.out _ _ ?hSa6x15 (fun hHeld => ?resta6x15)
                   case hSa6x15 => ((try dsimp only); first | with_reducible exact hHeld | with_reducible exact HSK.out _ (ext_drew _) | with_reducible exact HSK.out _ (ext_trans (ext_alloc _ _) (ext_drew _)) | with_reducible exact HSK.out _ (ext_trans (ext_drew _) (ext_alloc _ _)) | with_reducible exact HSK.out _ hx5 | with_reducible exact HSK.out _ (ext_trans hx5 (ext_alloc _ _)))
                   case resta6x15 =>
                     clear hK K
                     try simp only [Act.put, List.setIfInBounds_toArray, List.set_cons_zero, List.set_cons_succ]
                     refine wpAnyH_ready (rs := [3]) (by kernel_rfl) (by simp) ?_
                     refine AllReadyH.cons (o := _) rfl (fun K hK => ?sta6x16) ?morea6x16
                     case sta6x16 =>
                       go_simp
                       refine hK.out _ _ ?hSa6x16 (fun hHeld => ?resta6x16)
                       case hSa6x16 => ((try dsimp only); first | with_reducible exact hHeld | with_reducible exact HSK.out _ (ext_drew _) | with_reducible exact HSK.out _ (ext_trans (ext_alloc _ _) (ext_drew _)) | with_reducible exact HSK.out _ (ext_trans (ext_drew _) (ext_alloc _ _)) | with_reducible exact HSK.out _ hx5 | with_reducible exact HSK.out _ (ext_trans hx5 (ext_alloc _ _)))
                       case resta6x16 =>
                         clear hK K
                         try simp only [Act.put, List.setIfInBounds_toArray, List.set_cons_zero, List.set_cons_succ]
                         refine wpAnyH_ready (rs := [4]) (by kernel_rfl) (by simp) ?_
                         refine AllReadyH.cons (o := _) rfl (fun K hK => ?sta6x17) ?morea6x17
                         case sta6x17 =>
                           go_simp
                           refine hK.out _ _ ?hSa6x17 (fun hHeld => ?resta6x17)
                           case hSa6x17 => ((try dsimp only); first | with_reducible exact hHeld | with_reducible exact HSK.out _ (ext_drew _) | with_reducible exact HSK.out _ (ext_trans (ext_alloc _ _) (ext_drew _)) | with_reducible exact HSK.out _ (ext_trans (ext_drew _) (ext_alloc _ _)) | with_reducible exact HSK.out _ hx5 | with_reducible exact HSK.out _ (ext_trans hx5 (ext_alloc _ _)))
                           case resta6x17 =>
                             clear hK K
                             try simp only [Act.put, List.setIfInBounds_toArray, List.set_cons_zero, List.set_cons_succ]
                             refine wpAnyH_ready (rs := [8]) (by kernel_rfl) (by simp) ?_
                             refine AllReadyH.cons (o := _) rfl (fun K hK => ?sta6x18) ?morea6x18
                             case sta6x18 =>
                               go_simp
                               refine hK.out _ _ ?hSa6x18 (fun hHeld => ?resta6x18)
                               case hSa6x18 => ((try dsimp only); first | with_reducible exact hHeld | with_reducible exact HSK.out _ (ext_drew _) | with_reducible exact HSK.out _ (ext_trans (ext_alloc _ _) (ext_drew _)) | with_reducible exact HSK.out _ (ext_trans (ext_drew _) (ext_alloc _ _)) | with_reducible exact HSK.out _ hx5 | with_reducible exact HSK.out _ (ext_trans hx5 (ext_alloc _ _)))
                               case resta6x18 =>
                                 clear hK K
                                 try simp only [Act.put, List.setIfInBounds_toArray, List.set_cons_zero, List.set_cons_succ]
                                 refine wpAnyH_ready (rs := [9]) (by kernel_rfl) (by simp) ?_
                                 refine AllReadyH.cons (o := _) rfl (fun K hK => ?sta6x19) ?morea6x19
                                 case sta6x19 =>
                                   go_simp
                                   refine hK.out _ _ ?hSa6x19 (fun hHeld => ?resta6x19)
                                   case hSa6x19 => ((try dsimp only); first | with_reducible exact hHeld | with_reducible exact HSK.out _ (ext_drew _) | with_reducible exact HSK.out _ (ext_trans (ext_alloc _ _) (ext_drew _)) | with_reducible exact HSK.out _ (ext_trans (ext_drew _) (ext_alloc _ _)) | with_reducible exact HSK.out _ hx5 | with_reducible exact HSK.out _ (ext_trans hx5 (ext_alloc _ _)))
                                   case resta6x19 =>
                                     clear hK K
                                     try simp only [Act.put, List.setIfInBounds_toArray, List.set_cons_zero, List.set_cons_succ]
                                     refine wpAnyH_done (by kernel_rfl) ?_ _
                                     go_wp2
                                     go_meet
                                     exact ⟨rfl, by first | exact hx5 | (exact hHeld.2.2)⟩
                                 case morea6x19 =>
                                  exact AllReadyH.nil
                             case morea6x18 =>
                              exact AllReadyH.nil
                         case morea6x17 =>
                          exact AllReadyH.nil
                     case morea6x16 =>
                      exact AllReadyH.nil
                 case morea6x15 =>
                  exact AllReadyH.nil
            case morea6x5 =>
             refine AllReadyH.cons (o := _) rfl (fun K hK => ?sta6x20) ?morea6x20
             case sta6x20 =>
               go_simp
               go_at_call 60
               (with_reducible refine (HT1.out _).mono ?_)
               rintro e w5 ⟨rfl, hb5⟩
               have hx5 : Below (World.heap V0).size V0 w5 := first_below hb5 (by (first | with_reducible exact ext_drew _ | with_reducible exact ext_trans (ext_alloc _ _) (ext_drew _) | with_reducible exact ext_trans (ext_drew _) (ext_alloc _ _)))
               refine hK.out _ _ ?hSa6x20 (fun hHeld => ?resta6x20)
               case hSa6x20 => ((try dsimp only); first | with_reducible exact hHeld | with_reducible exact HSK.out _ (ext_drew _) | with_reducible exact HSK.out _ (ext_trans (ext_alloc _ _) (ext_drew _)) | with_reducible exact HSK.out _ (ext_trans (ext_drew _) (ext_alloc _ _)) | with_reducible exact HSK.out _ hx5 | with_reducible exact HSK.out _ (ext_trans hx5 (ext_alloc _ _)))
               case resta6x20 =>
                 clear hK K
                 try simp only [Act.put, List.setIfInBounds_toArray, List.set_cons_zero, List.set_cons_succ]
                 refine wpAnyH_ready (rs := [0]) (by kernel_rfl) (by simp) ?_
                 refine AllReadyH.cons (o := _) rfl (fun K hK => ?sta6x21) ?morea6x21
                 case sta6x21 =>
                   go_simp
                   refine hK.out _ _ ?hSa6x21 (fun hHeld => ?resta6x21)
                   case hSa6x21 => ((try dsimp only); first | with_reducible exact hHeld | with_reducible exact HSK.out _ (ext_drew _) | with_reducible exact HSK.out _ (ext_trans (ext_alloc _ _) (ext_drew _)) | with_reducible exact HSK.out _ (ext_trans (ext_drew _) (ext_alloc _ _)) | with_reducible exact HSK.out _ hx5 | with_reducible exact HSK.out _ (ext_trans hx5 (ext_alloc _ _)))
                   case resta6x21 =>
                     clear hK K
                     try simp only [Act.put, List.setIfInBounds_toArray, List.set_cons_zero, List.set_cons_succ]
                     refine wpAnyH_ready (rs := [3]) (by kernel_rfl) (by simp) ?_
                     refine AllReadyH.cons (o := _) rfl (fun K hK => ?sta6x22) ?morea6x22
                     case sta6x22 =>
                       go_simp
                       refine hK.out _ _ ?hSa6x22 (fun hHeld => ?resta6x22)
                       case hSa6x22 => ((try dsimp only); first | with_reducible exact hHeld | with_reducible exact HSK.out _ (ext_drew _) | with_reducible exact HSK.out _ (ext_trans (ext_alloc _ _) (ext_drew _)) | with_reducible exact HSK.out _ (ext_trans (ext_drew _) (ext_alloc _ _)) | with_reducible exact HSK.out _ hx5 | with_reducible exact HSK.out _ (ext_trans hx5 (ext_alloc _ _)))
                       case resta6x22 =>
                         clear hK K
                         try simp only [Act.put, List.setIfInBounds_toArray, List.set_cons_zero, List.set_cons_succ]
                         refine wpAnyH_ready (rs := [4]) (by kernel_rfl) (by simp) ?_
                         refine AllReadyH.cons (o := _) rfl (fun K hK => ?sta6x23) ?morea6x23
                         case sta6x23 =>
                           go_simp
                           refine hK.out _ _ ?hSa6x23 (fun hHeld => ?resta6x23)
                           case hSa6x23 => ((try dsimp only); first | with_reducible exact hHeld | with_reducible exact HSK.out _ (ext_drew _) | with_reducible exact HSK.out _ (ext_trans (ext_alloc _ _) (ext_drew _)) | with_reducible exact HSK.out _ (ext_trans (ext_drew _) (ext_alloc _ _)) | with_reducible exact HSK.out _ hx5 | with_reducible exact HSK.out _ (ext_trans hx5 (ext_alloc _ _)))
                           case resta6x23 =>
                             clear hK K
                             try simp only [Act.put, List.setIfInBounds_toArray, List.set_cons_zero, List.set_cons_succ]
                             refine wpAnyH_ready (rs := [8]) (by kernel_rfl) (by simp) ?_
                             refine AllReadyH.cons (o := _) rfl (fun K hK => ?sta6x24) ?morea6x24
                             case sta6x24 =>
                               go_simp
                               refine hK.out _ _ ?hSa6x24 (fun hHeld => ?resta6x24)
                               case hSa6x24 => ((try dsimp only); first | with_reducible exact hHeld | with_reducible exact HSK.out _ (ext_drew _) | with_reducible exact HSK.out _ (ext_trans (ext_alloc _ _) (ext_drew _)) | with_reducible exact HSK.out _ (ext_trans (ext_drew _) (ext_alloc _ _)) | with_reducible exact HSK.out _ hx5 | with_reducible exact HSK.out _ (ext_trans hx5 (ext_alloc _ _)))
                               case resta6x24 =>
                                 clear hK K
                                 try simp only [Act.put, List.setIfInBounds_toArray, List.set_cons_zero, List.set_cons_succ]
                                 refine wpAnyH_ready (rs := [9]) (by kernel_rfl) (by simp) ?_
                                 refine AllReadyH.cons (o := _) rfl (fun K hK => ?sta6x25) ?morea6x25
                                 case sta6x25 =>
                                   go_simp
                                   refine hK.out _ _ ?hSa6x25 (fun hHeld => ?resta6x25)
                                   case hSa6x25 => ((try dsimp only); first | with_reducible exact hHeld | with_reducible exact HSK.out _ (ext_drew _) | with_reducible exact HSK.out _ (ext_trans (ext_alloc _ _) (ext_drew _)) | with_reducible exact HSK.out _ (ext_trans (ext_drew _) (ext_alloc _ _)) | with_reducible exact HSK.out _ hx5 | with_reducible exact HSK.out _ (ext_trans hx5 (ext_alloc _ _)))
                                   case resta6x25 =>
                                     clear hK K
                                     try simp only [Act.put, List.setIfInBounds_toArray, List.set_cons_zero, List.set_cons_succ]
                                     refine wpAnyH_done (by kernel_rfl) ?_ _
                                     go_wp2
                                     go_meet
                                     exact ⟨rfl, by first | exact hx5 | (exact hHeld.2.2)⟩
                                 case morea6x25 =>
                                  exact AllReadyH.nil
                             case morea6x24 =>
                              exact AllReadyH.nil
                         case morea6x23 =>
                          exact AllReadyH.nil
                     case morea6x22 =>
                      exact AllReadyH.nil
                 case morea6x21 =>
                  exact AllReadyH.nil
             case morea6x20 =>
              exact AllReadyH.nil
    · have HSK := Lib.hid (fun (w' : World) (hb : Below (World.heap V0).size V0 w') => (show World.cell? w' ⟨w.heap.size, 0, none⟩ = some (.int .i64 7) ∧ World.cell? w' ⟨w.heap.size, 1, none⟩ = some (.int .i64 (u : Int)) ∧ Below (World.heap V0).size V0 w' from ⟨(hb.cell (p := ⟨w.heap.size, 0, none⟩) hyb).trans v0, (hb.cell (p := ⟨w.heap.size, 1, none⟩) hyb).trans v1, hb⟩))
      refine wp_region_held_drew (S := (fun w' => World.cell? w' ⟨w.heap.size, 0, none⟩ = some (.int .i64 7) ∧ World.cell? w' ⟨w.heap.size, 1, none⟩ = some (.int .i64 (u : Int)) ∧ Below (World.heap V0).size V0 w')) (by kernel_rfl) ?hSa7x0 (fun hHeld => ?resta7x0)
      case hSa7x0 => ((try dsimp only); first | with_reducible exact hHeld | with_reducible exact HSK.out _ (ext_drew _) | with_reducible exact HSK.out _ (ext_trans (ext_alloc _ _) (ext_drew _)) | with_reducible exact HSK.out _ (ext_trans (ext_drew _) (ext_alloc _ _)) | with_reducible exact HSK.out _ hx5 | with_reducible exact HSK.out _ (ext_trans hx5 (ext_alloc _ _)))
      case resta7x0 =>
        refine wpAnyH_take (i := 1) (oi := _) (v := ?va7x1) rfl (by kernel_rfl) (by kernel_rfl) (by kernel_rfl) (fun _ _ _ h => h) (Or.inl ⟨by rfl, ?hya7x1⟩) (by assumption) ?resta7x1
        case hya7x1 => ((intro w hSw; (try dsimp only at hSw); go_simp) <;> (with_reducible rfl))
        case resta7x1 =>
         try simp only [Act.put, List.setIfInBounds_toArray, List.set_cons_zero, List.set_cons_succ]
         refine wpAnyH_take (i := 2) (oi := _) (v := ?va7x2) rfl (by kernel_rfl) (by kernel_rfl) (by kernel_rfl) (fun _ _ _ h => h) (Or.inl ⟨by rfl, ?hya7x2⟩) (by assumption) ?resta7x2
         case hya7x2 => ((intro w hSw; (try dsimp only at hSw); go_simp) <;> (with_reducible rfl))
         case resta7x2 =>
          try simp only [Act.put, List.setIfInBounds_toArray, List.set_cons_zero, List.set_cons_succ]
          refine wpAnyH_take (i := 5) (oi := _) (v := ?va7x3) rfl (by kernel_rfl) (by kernel_rfl) (by kernel_rfl) (fun _ _ _ h => h) (Or.inl ⟨by rfl, ?hya7x3⟩) (by assumption) ?resta7x3
          case hya7x3 => ((intro w hSw; (try dsimp only at hSw); go_simp) <;> (with_reducible rfl))
          case resta7x3 =>
           try simp only [Act.put, List.setIfInBounds_toArray, List.set_cons_zero, List.set_cons_succ]
           refine wpAnyH_take (i := 6) (oi := _) (v := ?va7x4) rfl (by kernel_rfl) (by kernel_rfl) (by kernel_rfl) (fun _ _ _ h => h) (Or.inl ⟨by rfl, ?hya7x4⟩) (by assumption) ?resta7x4
           case hya7x4 => ((intro w hSw; (try dsimp only at hSw); go_simp) <;> (with_reducible rfl))
           case resta7x4 =>
            try simp only [Act.put, List.setIfInBounds_toArray, List.set_cons_zero, List.set_cons_succ]
            refine wpAnyH_ready (rs := [0, 7]) (by kernel_rfl) (by simp) ?_
            refine AllReadyH.cons (o := _) rfl (fun K hK => ?sta7x5) ?morea7x5
            case sta7x5 =>
              go_simp
              refine hK.out _ _ ?hSa7x5 (fun hHeld => ?resta7x5)
              case hSa7x5 => ((try dsimp only); first | with_reducible exact hHeld | with_reducible exact HSK.out _ (ext_drew _) | with_reducible exact HSK.out _ (ext_trans (ext_alloc _ _) (ext_drew _)) | with_reducible exact HSK.out _ (ext_trans (ext_drew _) (ext_alloc _ _)) | with_reducible exact HSK.out _ hx5 | with_reducible exact HSK.out _ (ext_trans hx5 (ext_alloc _ _)))
              case resta7x5 =>
                clear hK K
                try simp only [Act.put, List.setIfInBounds_toArray, List.set_cons_zero, List.set_cons_succ]
                refine wpAnyH_ready (rs := [3, 7]) (by kernel_rfl) (by simp) ?_
                refine AllReadyH.cons (o := _) rfl (fun K hK => ?sta7x6) ?morea7x6
                case sta7x6 =>
                  go_simp
                  refine hK.out _ _ ?hSa7x6 (fun hHeld => ?resta7x6)
                  case hSa7x6 => ((try dsimp only); first | with_reducible exact hHeld | with_reducible exact HSK.out _ (ext_drew _) | with_reducible exact HSK.out _ (ext_trans (ext_alloc _ _) (ext_drew _)) | with_reducible exact HSK.out _ (ext_trans (ext_drew _) (ext_alloc _ _)) | with_reducible exact HSK.out _ hx5 | with_reducible exact HSK.out _ (ext_trans hx5 (ext_alloc _ _)))
                  case resta7x6 =>
                    clear hK K
                    try simp only [Act.put, List.setIfInBounds_toArray, List.set_cons_zero, List.set_cons_succ]
                    refine wpAnyH_ready (rs := [4, 7]) (by kernel_rfl) (by simp) ?_
                    refine AllReadyH.cons (o := _) rfl (fun K hK => ?sta7x7) ?morea7x7
                    case sta7x7 =>
                      go_simp
                      refine hK.out _ _ ?hSa7x7 (fun hHeld => ?resta7x7)
                      case hSa7x7 => ((try dsimp only); first | with_reducible exact hHeld | with_reducible exact HSK.out _ (ext_drew _) | with_reducible exact HSK.out _ (ext_trans (ext_alloc _ _) (ext_drew _)) | with_reducible exact HSK.out _ (ext_trans (ext_drew _) (ext_alloc _ _)) | with_reducible exact HSK.out _ hx5 | with_reducible exact HSK.out _ (ext_trans hx5 (ext_alloc _ _)))
                      case resta7x7 =>
                        clear hK K
                        try simp only [Act.put, List.setIfInBounds_toArray, List.set_cons_zero, List.set_cons_succ]
                        refine wpAnyH_ready (rs := [7]) (by kernel_rfl) (by simp) ?_
                        refine AllReadyH.cons (o := _) rfl (fun K hK => ?sta7x8) ?morea7x8
                        case sta7x8 =>
                          go_simp
                          go_at_call 60
                          (with_reducible refine (HT1.out _).mono ?_)
                          rintro e w5 ⟨rfl, hb5⟩
                          have hx5 : Below (World.heap V0).size V0 w5 := first_below hb5 (by (first | with_reducible exact ext_drew _ | with_reducible exact ext_trans (ext_alloc _ _) (ext_drew _) | with_reducible exact ext_trans (ext_drew _) (ext_alloc _ _)))
                          have hlc : World.cell? w5 ⟨(World.heap V0).size, 7, none⟩ = some (.string ⟨#[110, 119]⟩) := (hb5.cell (p := ⟨(World.heap V0).size, 7, none⟩) (by simp)).trans (by simp)
                          refine hK.out _ _ ?hSa7x8 (fun hHeld => ?resta7x8)
                          case hSa7x8 => ((try dsimp only); first | with_reducible exact hHeld | with_reducible exact HSK.out _ (ext_drew _) | with_reducible exact HSK.out _ (ext_trans (ext_alloc _ _) (ext_drew _)) | with_reducible exact HSK.out _ (ext_trans (ext_drew _) (ext_alloc _ _)) | with_reducible exact HSK.out _ hx5 | with_reducible exact HSK.out _ (ext_trans hx5 (ext_alloc _ _)))
                          case resta7x8 =>
                            clear hK K
                            try simp only [Act.put, List.setIfInBounds_toArray, List.set_cons_zero, List.set_cons_succ]
                            refine wpAnyH_ready (rs := [8]) (by kernel_rfl) (by simp) ?_
                            refine AllReadyH.cons (o := _) rfl (fun K hK => ?sta7x9) ?morea7x9
                            case sta7x9 =>
                              go_simp
                              refine hK.out _ _ ?hSa7x9 (fun hHeld => ?resta7x9)
                              case hSa7x9 => ((try dsimp only); first | with_reducible exact hHeld | with_reducible exact HSK.out _ (ext_drew _) | with_reducible exact HSK.out _ (ext_trans (ext_alloc _ _) (ext_drew _)) | with_reducible exact HSK.out _ (ext_trans (ext_drew _) (ext_alloc _ _)) | with_reducible exact HSK.out _ hx5 | with_reducible exact HSK.out _ (ext_trans hx5 (ext_alloc _ _)))
                              case resta7x9 =>
                                clear hK K
                                try simp only [Act.put, List.setIfInBounds_toArray, List.set_cons_zero, List.set_cons_succ]
                                refine wpAnyH_ready (rs := [9]) (by kernel_rfl) (by simp) ?_
                                refine AllReadyH.cons (o := _) rfl (fun K hK => ?sta7x10) ?morea7x10
                                case sta7x10 =>
                                  go_simp
                                  refine hK.out _ _ ?hSa7x10 (fun hHeld => ?resta7x10)
                                  case hSa7x10 => ((try dsimp only); first | with_reducible exact hHeld | with_reducible exact HSK.out _ (ext_drew _) | with_reducible exact HSK.out _ (ext_trans (ext_alloc _ _) (ext_drew _)) | with_reducible exact HSK.out _ (ext_trans (ext_drew _) (ext_alloc _ _)) | with_reducible exact HSK.out _ hx5 | with_reducible exact HSK.out _ (ext_trans hx5 (ext_alloc _ _)))
                                  case resta7x10 =>
                                    clear hK K
                                    try simp only [Act.put, List.setIfInBounds_toArray, List.set_cons_zero, List.set_cons_succ]
                                    refine wpAnyH_done (by kernel_rfl) ?_ _
                                    go_wp2
                                    go_meet
                                    exact ⟨rfl, by first | exact hx5 | (exact hHeld.2.2)⟩
                                case morea7x10 =>
                                 exact AllReadyH.nil
                            case morea7x9 =>
                             exact AllReadyH.nil
                        case morea7x8 =>
                         exact AllReadyH.nil
                    case morea7x7 =>
                     refine AllReadyH.cons (o := _) rfl (fun K hK => ?sta7x11) ?morea7x11
                     case sta7x11 =>
                       go_simp
                       go_at_call 60
                       (with_reducible refine (HT1.out _).mono ?_)
                       rintro e w5 ⟨rfl, hb5⟩
                       have hx5 : Below (World.heap V0).size V0 w5 := first_below hb5 (by (first | with_reducible exact ext_drew _ | with_reducible exact ext_trans (ext_alloc _ _) (ext_drew _) | with_reducible exact ext_trans (ext_drew _) (ext_alloc _ _)))
                       have hlc : World.cell? w5 ⟨(World.heap V0).size, 7, none⟩ = some (.string ⟨#[110, 119]⟩) := (hb5.cell (p := ⟨(World.heap V0).size, 7, none⟩) (by simp)).trans (by simp)
                       refine hK.out _ _ ?hSa7x11 (fun hHeld => ?resta7x11)
                       case hSa7x11 => ((try dsimp only); first | with_reducible exact hHeld | with_reducible exact HSK.out _ (ext_drew _) | with_reducible exact HSK.out _ (ext_trans (ext_alloc _ _) (ext_drew _)) | with_reducible exact HSK.out _ (ext_trans (ext_drew _) (ext_alloc _ _)) | with_reducible exact HSK.out _ hx5 | with_reducible exact HSK.out _ (ext_trans hx5 (ext_alloc _ _)))
                       case resta7x11 =>
                         clear hK K
                         try simp only [Act.put, List.setIfInBounds_toArray, List.set_cons_zero, List.set_cons_succ]
                         refine wpAnyH_ready (rs := [4]) (by kernel_rfl) (by simp) ?_
                         refine AllReadyH.cons (o := _) rfl (fun K hK => ?sta7x12) ?morea7x12
                         case sta7x12 =>
                           go_simp
                           refine hK.out _ _ ?hSa7x12 (fun hHeld => ?resta7x12)
                           case hSa7x12 => ((try dsimp only); first | with_reducible exact hHeld | with_reducible exact HSK.out _ (ext_drew _) | with_reducible exact HSK.out _ (ext_trans (ext_alloc _ _) (ext_drew _)) | with_reducible exact HSK.out _ (ext_trans (ext_drew _) (ext_alloc _ _)) | with_reducible exact HSK.out _ hx5 | with_reducible exact HSK.out _ (ext_trans hx5 (ext_alloc _ _)))
                           case resta7x12 =>
                             clear hK K
                             try simp only [Act.put, List.setIfInBounds_toArray, List.set_cons_zero, List.set_cons_succ]
                             refine wpAnyH_ready (rs := [8]) (by kernel_rfl) (by simp) ?_
                             refine AllReadyH.cons (o := _) rfl (fun K hK => ?sta7x13) ?morea7x13
                             case sta7x13 =>
                               go_simp
                               refine hK.out _ _ ?hSa7x13 (fun hHeld => ?resta7x13)
                               case hSa7x13 => ((try dsimp only); first | with_reducible exact hHeld | with_reducible exact HSK.out _ (ext_drew _) | with_reducible exact HSK.out _ (ext_trans (ext_alloc _ _) (ext_drew _)) | with_reducible exact HSK.out _ (ext_trans (ext_drew _) (ext_alloc _ _)) | with_reducible exact HSK.out _ hx5 | with_reducible exact HSK.out _ (ext_trans hx5 (ext_alloc _ _)))
                               case resta7x13 =>
                                 clear hK K
                                 try simp only [Act.put, List.setIfInBounds_toArray, List.set_cons_zero, List.set_cons_succ]
                                 refine wpAnyH_ready (rs := [9]) (by kernel_rfl) (by simp) ?_
                                 refine AllReadyH.cons (o := _) rfl (fun K hK => ?sta7x14) ?morea7x14
                                 case sta7x14 =>
                                   go_simp
                                   refine hK.out _ _ ?hSa7x14 (fun hHeld => ?resta7x14)
                                   case hSa7x14 => ((try dsimp only); first | with_reducible exact hHeld | with_reducible exact HSK.out _ (ext_drew _) | with_reducible exact HSK.out _ (ext_trans (ext_alloc _ _) (ext_drew _)) | with_reducible exact HSK.out _ (ext_trans (ext_drew _) (ext_alloc _ _)) | with_reducible exact HSK.out _ hx5 | with_reducible exact HSK.out _ (ext_trans hx5 (ext_alloc _ _)))
                                   case resta7x14 =>
                                     clear hK K
                                     try simp only [Act.put, List.setIfInBounds_toArray, List.set_cons_zero, List.set_cons_succ]
                                     refine wpAnyH_done (by kernel_rfl) ?_ _
                                     go_wp2
                                     go_meet
                                     exact ⟨rfl, by first | exact hx5 | (exact hHeld.2.2)⟩
                                 case morea7x14 =>
                                  exact AllReadyH.nil
                             case morea7x13 =>
                              exact AllReadyH.nil
                         case morea7x12 =>
                          exact AllReadyH.nil
                     case morea7x11 =>
                      exact AllReadyH.nil
                case morea7x6 =>
                 refine AllReadyH.cons (o := _) rfl (fun K hK => ?sta7x15) ?morea7x15
                 case sta7x15 =>
                   go_simp
                   go_at_call 60
                   (with_reducible refine (HT1.out _).mono ?_)
                   rintro e w5 ⟨rfl, hb5⟩
                   have hx5 : Below (World.heap V0).size V0 w5 := first_below hb5 (by (first | with_reducible exact ext_drew _ | with_reducible exact ext_trans (ext_alloc _ _) (ext_drew _) | with_reducible exact ext_trans (ext_drew _) (ext_alloc _ _)))
                   have hlc : World.cell? w5 ⟨(World.heap V0).size, 7, none⟩ = some (.string ⟨#[110, 119]⟩) := (hb5.cell (p := ⟨(World.heap V0).size, 7, none⟩) (by simp)).trans (by simp)
                   refine hK.out _ _ ?hSa7x15 (fun hHeld => ?resta7x15)
                   case hSa7x15 => ((try dsimp only); first | with_reducible exact hHeld | with_reducible exact HSK.out _ (ext_drew _) | with_reducible exact HSK.out _ (ext_trans (ext_alloc _ _) (ext_drew _)) | with_reducible exact HSK.out _ (ext_trans (ext_drew _) (ext_alloc _ _)) | with_reducible exact HSK.out _ hx5 | with_reducible exact HSK.out _ (ext_trans hx5 (ext_alloc _ _)))
                   case resta7x15 =>
                     clear hK K
                     try simp only [Act.put, List.setIfInBounds_toArray, List.set_cons_zero, List.set_cons_succ]
                     refine wpAnyH_ready (rs := [3]) (by kernel_rfl) (by simp) ?_
                     refine AllReadyH.cons (o := _) rfl (fun K hK => ?sta7x16) ?morea7x16
                     case sta7x16 =>
                       go_simp
                       refine hK.out _ _ ?hSa7x16 (fun hHeld => ?resta7x16)
                       case hSa7x16 => ((try dsimp only); first | with_reducible exact hHeld | with_reducible exact HSK.out _ (ext_drew _) | with_reducible exact HSK.out _ (ext_trans (ext_alloc _ _) (ext_drew _)) | with_reducible exact HSK.out _ (ext_trans (ext_drew _) (ext_alloc _ _)) | with_reducible exact HSK.out _ hx5 | with_reducible exact HSK.out _ (ext_trans hx5 (ext_alloc _ _)))
                       case resta7x16 =>
                         clear hK K
                         try simp only [Act.put, List.setIfInBounds_toArray, List.set_cons_zero, List.set_cons_succ]
                         refine wpAnyH_ready (rs := [4]) (by kernel_rfl) (by simp) ?_
                         refine AllReadyH.cons (o := _) rfl (fun K hK => ?sta7x17) ?morea7x17
                         case sta7x17 =>
                           go_simp
                           refine hK.out _ _ ?hSa7x17 (fun hHeld => ?resta7x17)
                           case hSa7x17 => ((try dsimp only); first | with_reducible exact hHeld | with_reducible exact HSK.out _ (ext_drew _) | with_reducible exact HSK.out _ (ext_trans (ext_alloc _ _) (ext_drew _)) | with_reducible exact HSK.out _ (ext_trans (ext_drew _) (ext_alloc _ _)) | with_reducible exact HSK.out _ hx5 | with_reducible exact HSK.out _ (ext_trans hx5 (ext_alloc _ _)))
                           case resta7x17 =>
                             clear hK K
                             try simp only [Act.put, List.setIfInBounds_toArray, List.set_cons_zero, List.set_cons_succ]
                             refine wpAnyH_ready (rs := [8]) (by kernel_rfl) (by simp) ?_
                             refine AllReadyH.cons (o := _) rfl (fun K hK => ?sta7x18) ?morea7x18
                             case sta7x18 =>
                               go_simp
                               refine hK.out _ _ ?hSa7x18 (fun hHeld => ?resta7x18)
                               case hSa7x18 => ((try dsimp only); first | with_reducible exact hHeld | with_reducible exact HSK.out _ (ext_drew _) | with_reducible exact HSK.out _ (ext_trans (ext_alloc _ _) (ext_drew _)) | with_reducible exact HSK.out _ (ext_trans (ext_drew _) (ext_alloc _ _)) | with_reducible exact HSK.out _ hx5 | with_reducible exact HSK.out _ (ext_trans hx5 (ext_alloc _ _)))
                               case resta7x18 =>
                                 clear hK K
                                 try simp only [Act.put, List.setIfInBounds_toArray, List.set_cons_zero, List.set_cons_succ]
                                 refine wpAnyH_ready (rs := [9]) (by kernel_rfl) (by simp) ?_
                                 refine AllReadyH.cons (o := _) rfl (fun K hK => ?sta7x19) ?morea7x19
                                 case sta7x19 =>
                                   go_simp
                                   refine hK.out _ _ ?hSa7x19 (fun hHeld => ?resta7x19)
                                   case hSa7x19 => ((try dsimp only); first | with_reducible exact hHeld | with_reducible exact HSK.out _ (ext_drew _) | with_reducible exact HSK.out _ (ext_trans (ext_alloc _ _) (ext_drew _)) | with_reducible exact HSK.out _ (ext_trans (ext_drew _) (ext_alloc _ _)) | with_reducible exact HSK.out _ hx5 | with_reducible exact HSK.out _ (ext_trans hx5 (ext_alloc _ _)))
                                   case resta7x19 =>
                                     clear hK K
                                     try simp only [Act.put, List.setIfInBounds_toArray, List.set_cons_zero, List.set_cons_succ]
                                     refine wpAnyH_done (by kernel_rfl) ?_ _
                                     go_wp2
                                     go_meet
                                     exact ⟨rfl, by first | exact hx5 | (exact hHeld.2.2)⟩
                                 case morea7x19 =>
                                  exact AllReadyH.nil
                             case morea7x18 =>
                              exact AllReadyH.nil
                         case morea7x17 =>
                          exact AllReadyH.nil
                     case morea7x16 =>
                      exact AllReadyH.nil
                 case morea7x15 =>
                  exact AllReadyH.nil
            case morea7x5 =>
             refine AllReadyH.cons (o := _) rfl (fun K hK => ?sta7x20) ?morea7x20
             case sta7x20 =>
               go_simp
               go_at_call 60
               (with_reducible refine (HT1.out _).mono ?_)
               rintro e w5 ⟨rfl, hb5⟩
               have hx5 : Below (World.heap V0).size V0 w5 := first_below hb5 (by (first | with_reducible exact ext_drew _ | with_reducible exact ext_trans (ext_alloc _ _) (ext_drew _) | with_reducible exact ext_trans (ext_drew _) (ext_alloc _ _)))
               refine hK.out _ _ ?hSa7x20 (fun hHeld => ?resta7x20)
               case hSa7x20 => ((try dsimp only); first | with_reducible exact hHeld | with_reducible exact HSK.out _ (ext_drew _) | with_reducible exact HSK.out _ (ext_trans (ext_alloc _ _) (ext_drew _)) | with_reducible exact HSK.out _ (ext_trans (ext_drew _) (ext_alloc _ _)) | with_reducible exact HSK.out _ hx5 | with_reducible exact HSK.out _ (ext_trans hx5 (ext_alloc _ _)))
               case resta7x20 =>
                 clear hK K
                 try simp only [Act.put, List.setIfInBounds_toArray, List.set_cons_zero, List.set_cons_succ]
                 refine wpAnyH_ready (rs := [0]) (by kernel_rfl) (by simp) ?_
                 refine AllReadyH.cons (o := _) rfl (fun K hK => ?sta7x21) ?morea7x21
                 case sta7x21 =>
                   go_simp
                   refine hK.out _ _ ?hSa7x21 (fun hHeld => ?resta7x21)
                   case hSa7x21 => ((try dsimp only); first | with_reducible exact hHeld | with_reducible exact HSK.out _ (ext_drew _) | with_reducible exact HSK.out _ (ext_trans (ext_alloc _ _) (ext_drew _)) | with_reducible exact HSK.out _ (ext_trans (ext_drew _) (ext_alloc _ _)) | with_reducible exact HSK.out _ hx5 | with_reducible exact HSK.out _ (ext_trans hx5 (ext_alloc _ _)))
                   case resta7x21 =>
                     clear hK K
                     try simp only [Act.put, List.setIfInBounds_toArray, List.set_cons_zero, List.set_cons_succ]
                     refine wpAnyH_ready (rs := [3]) (by kernel_rfl) (by simp) ?_
                     refine AllReadyH.cons (o := _) rfl (fun K hK => ?sta7x22) ?morea7x22
                     case sta7x22 =>
                       go_simp
                       refine hK.out _ _ ?hSa7x22 (fun hHeld => ?resta7x22)
                       case hSa7x22 => ((try dsimp only); first | with_reducible exact hHeld | with_reducible exact HSK.out _ (ext_drew _) | with_reducible exact HSK.out _ (ext_trans (ext_alloc _ _) (ext_drew _)) | with_reducible exact HSK.out _ (ext_trans (ext_drew _) (ext_alloc _ _)) | with_reducible exact HSK.out _ hx5 | with_reducible exact HSK.out _ (ext_trans hx5 (ext_alloc _ _)))
                       case resta7x22 =>
                         clear hK K
                         try simp only [Act.put, List.setIfInBounds_toArray, List.set_cons_zero, List.set_cons_succ]
                         refine wpAnyH_ready (rs := [4]) (by kernel_rfl) (by simp) ?_
                         refine AllReadyH.cons (o := _) rfl (fun K hK => ?sta7x23) ?morea7x23
                         case sta7x23 =>
                           go_simp
                           refine hK.out _ _ ?hSa7x23 (fun hHeld => ?resta7x23)
                           case hSa7x23 => ((try dsimp only); first | with_reducible exact hHeld | with_reducible exact HSK.out _ (ext_drew _) | with_reducible exact HSK.out _ (ext_trans (ext_alloc _ _) (ext_drew _)) | with_reducible exact HSK.out _ (ext_trans (ext_drew _) (ext_alloc _ _)) | with_reducible exact HSK.out _ hx5 | with_reducible exact HSK.out _ (ext_trans hx5 (ext_alloc _ _)))
                           case resta7x23 =>
                             clear hK K
                             try simp only [Act.put, List.setIfInBounds_toArray, List.set_cons_zero, List.set_cons_succ]
                             refine wpAnyH_ready (rs := [8]) (by kernel_rfl) (by simp) ?_
                             refine AllReadyH.cons (o := _) rfl (fun K hK => ?sta7x24) ?morea7x24
                             case sta7x24 =>
                               go_simp
                               refine hK.out _ _ ?hSa7x24 (fun hHeld => ?resta7x24)
                               case hSa7x24 => ((try dsimp only); first | with_reducible exact hHeld | with_reducible exact HSK.out _ (ext_drew _) | with_reducible exact HSK.out _ (ext_trans (ext_alloc _ _) (ext_drew _)) | with_reducible exact HSK.out _ (ext_trans (ext_drew _) (ext_alloc _ _)) | with_reducible exact HSK.out _ hx5 | with_reducible exact HSK.out _ (ext_trans hx5 (ext_alloc _ _)))
                               case resta7x24 =>
                                 clear hK K
                                 try simp only [Act.put, List.setIfInBounds_toArray, List.set_cons_zero, List.set_cons_succ]
                                 refine wpAnyH_ready (rs := [9]) (by kernel_rfl) (by simp) ?_
                                 refine AllReadyH.cons (o := _) rfl (fun K hK => ?sta7x25) ?morea7x25
                                 case sta7x25 =>
                                   go_simp
                                   refine hK.out _ _ ?hSa7x25 (fun hHeld => ?resta7x25)
                                   case hSa7x25 => ((try dsimp only); first | with_reducible exact hHeld | with_reducible exact HSK.out _ (ext_drew _) | with_reducible exact HSK.out _ (ext_trans (ext_alloc _ _) (ext_drew _)) | with_reducible exact HSK.out _ (ext_trans (ext_drew _) (ext_alloc _ _)) | with_reducible exact HSK.out _ hx5 | with_reducible exact HSK.out _ (ext_trans hx5 (ext_alloc _ _)))
                                   case resta7x25 =>
                                     clear hK K
                                     try simp only [Act.put, List.setIfInBounds_toArray, List.set_cons_zero, List.set_cons_succ]
                                     refine wpAnyH_done (by kernel_rfl) ?_ _
                                     go_wp2
                                     go_meet
                                     exact ⟨rfl, by first | exact hx5 | (exact hHeld.2.2)⟩
                                 case morea7x25 =>
                                  exact AllReadyH.nil
                             case morea7x24 =>
                              exact AllReadyH.nil
                         case morea7x23 =>
                          exact AllReadyH.nil
                     case morea7x22 =>
                      exact AllReadyH.nil
                 case morea7x21 =>
                  exact AllReadyH.nil
             case morea7x20 =>
              exact AllReadyH.nil
  case rest =>
    obtain ⟨rfl, hbc⟩ := hcut
    have r2 := (hbc.cell (p := ⟨w.heap.size, 2, none⟩) hyb).trans v2
    have hyc := Nat.lt_of_lt_of_le hyb hbc.size
    have hxc := ext_trans hC0 hbc
    obtain ⟨T, hT⟩ : ∃ z, z = wayB wy ++ dig u := ⟨_, rfl⟩
    have hTs : T.size ≤ 1002 := by rw [hT, ByteArray.size_append]; omega
    rw [← hT] at HLT ⊢
    clear hT v0 v1 v2
    rcases Int.lt_trichotomy cl 0 with hc | hc | hc
    · have hc1 : ¬ 0 < cl := by omega
      have hc2 : (cl != 0) = true := by simp; omega
      have HL := Lib.hid (show legT ⟨wy, (u : Int), cl⟩ = T ++ digI cl from by rw [HLT.out, if_neg hc1, if_pos hc])
      go_wp2_with fail
      ((with_reducible refine (HT2.out _).mono ?_); rintro e w5 ⟨rfl, hb5⟩)
      go_wp2
      refine bodyPost_ret (v := .string (T ++ digI cl)) (by simp [results, Tryd.results43, go_sem]) rfl ⟨by rw [HL.out], ext_trans hxc hb5⟩
    · subst hc
      have HL := Lib.hid (show legT ⟨wy, (u : Int), 0⟩ = T from by rw [HLT.out, if_neg (by omega), if_neg (by omega)])
      go_wp2
      refine bodyPost_ret (v := .string T) (by simp [results, Tryd.results43, go_sem]) rfl ⟨by rw [HL.out], hxc⟩
    · have hc2 : (cl != 0) = true := by simp; omega
      have HL := Lib.hid (show legT ⟨wy, (u : Int), cl⟩ = T ++ ⟨#[43]⟩ ++ digI cl from by rw [HLT.out, if_pos hc])
      go_wp2_with fail
      ((with_reducible refine (HT2.out _).mono ?_); rintro e w5 ⟨rfl, hb5⟩)
      go_wp2
      refine bodyPost_ret (v := .string (T ++ ⟨#[43]⟩ ++ digI cl)) (by simp [results, Tryd.results43, go_sem]) rfl ⟨by rw [HL.out], ext_trans hxc hb5⟩
end Go.Proofs.YtlagfeccdcjimaaDoor
