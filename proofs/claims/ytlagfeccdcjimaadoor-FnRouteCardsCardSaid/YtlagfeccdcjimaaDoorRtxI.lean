/- The text of a route: the program's. No condition. -/
import Derived.Test.YtlagfeccdcjimaaDoorOwnTx
import Derived.Test.YtlagfeccdcjimaaDoorTxtJ
import Derived.Test.YtlagfeccdcjimaaDoorShelf
import Derived.Deep.DeepCutAuto
import Derived.Deep.RegionHeld3
namespace Go.Proofs.YtlagfeccdcjimaaDoor
open Go.RowKit
set_option linter.unusedVariables false
set_option linter.unusedSimpArgs false

theorem first_belowI {V X w : World} (hb : Below X.heap.size X w) (h : Below V.heap.size V X) : Below V.heap.size V w := ext_trans h hb
set_option maxHeartbeats 16000000 in
set_option maxRecDepth 100000 in
theorem routeText_any (A : Option Addr) (c : Nat) (xs : List Leg) (w : World) (hn : xs.length ≤ 1048576) (hA : Fl Leg.ints 3 w A xs) (hT : Pow w.heap.size w) :
    Calls Tryd.prog 20 #[.slice A xs.length c] w (fun e w' => e = .returned (.tuple #[.string (selt (Rt xs) (rtT xs)), .bool (tb (Rt xs))]) ∧ Below w.heap.size w w') := by
  have hgr := isRoute_any A c xs w hn hA
  have HPO := Lib.hid hT
  clear hT
  by_cases hR : Rt xs
  · rw [tb_t hR] at hgr
    rw [selt_t hR, tb_t hR]
    obtain ⟨i0, hi, hy0, hy1, hy2⟩ := info_parts infoStr
    have hL := rt_legsT hR
    have hn12 : xs.length ≤ 12 := hR.2
    have hsj := txts_bd hL
    have hjl := txts_len xs
    have HJN := Lib.hid (fun (g cap : Nat) (W : World) (hc : ∀ (j : Nat) x, (txts xs)[j]? = some x → W.cell? ⟨g, 0 + j, none⟩ = some (.string x)) (hg : g < W.heap.size) (hcp : (txts xs).length ≤ cap) =>
      Tryd.strings_Join g 0 cap (txts xs) ⟨#[32]⟩ W hc hg (by omega) hcp (by
        have h1 : (joinS (txts xs)).size = (Lib.join ((txts xs).map (·.data.toList)) [32]).length := by unfold joinS; simp [ByteArray.size]
        show (Lib.join ((txts xs).map (·.data.toList)) [32]).length ≤ _
        omega))
    have HL := Lib.hid hL
    clear hR hL
    obtain ⟨n, hnn⟩ : ∃ n, n = List.length xs := ⟨_, rfl⟩
    rw [← hnn] at hgr hn12 hn hjl hsj ⊢
    have hN := Lib.hid hnn
    have HG := Lib.hid hgr
    clear hnn hgr
    go_enter Tryd.func20, Tryd.ntmps20
    go_wp2_with fail
    ((with_reducible refine (HG.out).mono ?_); rintro e w1 ⟨rfl, hb1⟩)
    rcases Nat.eq_zero_or_pos n with hz | hz
    · have hz0 : ((n : Int) == 0) = true := by simp [hz]
      have HNI := Lib.hid (show xs = [] from List.length_eq_zero_iff.1 (by rw [← hN.out]; exact hz))
      clear hz
      go_wp2
      refine bodyPost_ret (v := .tuple #[.string ⟨#[45]⟩, .bool true]) (by simp [results, Tryd.results20, go_sem]) rfl ⟨by rw [HNI.out]; rfl, hb1⟩
    · have hz0 : ((n : Int) == 0) = false := beq_eq_false_iff_ne.2 (by omega)
      have HNE := Lib.hid (show xs ≠ [] from fun e => by have := hN.out; rw [e] at this; simp at this; omega)
      go_wp2
      go_loopw [4, 16] (fun v i wr => ∃ k : Nat, k ≤ n ∧ i = .int .i64 k ∧ OwnT w.heap.size 9 wr v (txts (xs.take k)) ∧ Below w.heap.size w wr) (fun _ i _ => n - (intOf i).toNat)
      case atStart => exact ⟨0, by omega, rfl, OwnT.none_, hb1⟩
      case round =>
        obtain ⟨k, hk, rfl, hown, hbr⟩ := hrel
        by_cases hlt : k < n
        · obtain ⟨⟨wy, us, cl⟩, b, o, hx, hAe, hb, hc⟩ := (hA.ext hbr).at_ (k := k) (by rw [← hN.out]; exact hlt)
          subst hAe
          have c0 : World.cell? wr ⟨b, o + k * 3, none⟩ = some (.int .i64 wy) := hc 0 _ rfl
          have c1 : World.cell? wr ⟨b, o + k * 3 + 1, none⟩ = some (.int .i64 us) := hc 1 _ rfl
          have c2 : World.cell? wr ⟨b, o + k * 3 + 2, none⟩ = some (.int .i64 cl) := hc 2 _ rfl
          have h := HL.out _ (List.mem_of_getElem? hx)
          have HT := Lib.hid (take_get hx)
          have htl : (txts (xs.take k)).length = k := by rw [txts_len, List.length_take, ← hN.out]; omega
          unfold IsLeg at h
          simp only at h
          obtain ⟨⟨p1, p2⟩, ⟨p3, p4⟩, ⟨p5, p6⟩⟩ := h
          obtain ⟨u, hu⟩ : ∃ u : Nat, us = u := ⟨us.toNat, by omega⟩
          subst hu
          have hLT : legT ⟨wy, (u : Int), cl⟩ = if 0 < cl then wayB wy ++ dig u ++ ⟨#[43]⟩ ++ digI cl else if cl < 0 then wayB wy ++ dig u ++ digI cl else wayB wy ++ dig u := by unfold legT; rfl
          have HLT := Lib.hid hLT
          obtain ⟨W0, hW0, hD0, hyb, hv, _⟩ := box_world wr #[Value.int .i64 wy, .int .i64 (u : Int), .int .i64 cl] 52
          have v0 : World.cell? W0 ⟨wr.heap.size, 0, none⟩ = some (.int .i64 wy) := hv 0
          have v1 : World.cell? W0 ⟨wr.heap.size, 1, none⟩ = some (.int .i64 (u : Int)) := hv 1
          have v2 : World.cell? W0 ⟨wr.heap.size, 2, none⟩ = some (.int .i64 cl) := hv 2
          have hbw := ext_trans hbr hD0
          have how := hown.ext hD0
          have HT1 := Lib.hid (fun W (hW : Below W0.heap.size W0 W) => text_any u w.heap.size W (by omega) (Nat.le_trans hbw.size hW.size) (HPO.out.on (hbw.trans (hW.mono hbw.size))))
          have HT2 := Lib.hid (fun W (hW : Below W0.heap.size W0 W) => textI_any cl w.heap.size W ⟨p5, p6⟩ (Nat.le_trans hbw.size hW.size) (HPO.out.on (hbw.trans (hW.mono hbw.size))))
          have hs1 := wayB_size wy
          have hs2 := dig_size u
          have hs3 := digI_size (n := cl) ⟨p5, p6⟩
          have hct1 : ¬ 9223372036854775807 < 1 + (dig u).size := by omega
          have hct2 : ¬ 9223372036854775807 < 2 + (dig u).size := by omega
          clear hv hLT hc hx hown
          have hk0 : (0 : Int) ≤ (k : Int) := by omega
          have hk1 : (k : Int) < (n : Int) := by omega
          go_upto_region 9 with fail
          clear hW0 c0 c1 c2
          go_cut [7] (fun v wx => v = .string (wayB wy ++ dig u) ∧ Below W0.heap.size W0 wx)
          case first =>
            have hw : wy = 0 ∨ wy = 1 ∨ wy = 2 ∨ wy = 3 ∨ wy = 4 ∨ wy = 5 ∨ wy = 6 ∨ wy = 7 := by omega
            rcases hw with rfl | rfl | rfl | rfl | rfl | rfl | rfl | rfl
            · have HSK := Lib.hid (fun (w' : World) (hb : Below (World.heap W0).size W0 w') => (show World.cell? w' ⟨wr.heap.size, 0, none⟩ = some (.int .i64 0) ∧ World.cell? w' ⟨wr.heap.size, 1, none⟩ = some (.int .i64 (u : Int)) ∧ Below (World.heap W0).size W0 w' from ⟨(hb.cell (p := ⟨wr.heap.size, 0, none⟩) hyb).trans v0, (hb.cell (p := ⟨wr.heap.size, 1, none⟩) hyb).trans v1, hb⟩))
              refine wp_region_held_drew (S := (fun w' => World.cell? w' ⟨wr.heap.size, 0, none⟩ = some (.int .i64 0) ∧ World.cell? w' ⟨wr.heap.size, 1, none⟩ = some (.int .i64 (u : Int)) ∧ Below (World.heap W0).size W0 w')) (by kernel_rfl) ?hSb0x0 (fun hHeld => ?restb0x0)
              case hSb0x0 => ((try dsimp only); first | with_reducible exact hHeld | with_reducible exact HSK.out _ (ext_drew _) | with_reducible exact HSK.out _ (ext_trans (ext_alloc _ _) (ext_drew _)) | with_reducible exact HSK.out _ (ext_trans (ext_drew _) (ext_alloc _ _)) | with_reducible exact HSK.out _ hx5 | with_reducible exact HSK.out _ (ext_trans hx5 (ext_alloc _ _)))
              case restb0x0 =>
                refine wpAnyH_take (i := 1) (oi := _) (v := ?vb0x1) rfl (by kernel_rfl) (by kernel_rfl) (by kernel_rfl) (fun _ _ _ h => h) (Or.inl ⟨by rfl, ?hyb0x1⟩) (by assumption) ?restb0x1
                case hyb0x1 => ((intro w hSw; (try dsimp only at hSw); go_simp) <;> (with_reducible rfl))
                case restb0x1 =>
                 try simp only [Act.put, List.setIfInBounds_toArray, List.set_cons_zero, List.set_cons_succ]
                 refine wpAnyH_take (i := 2) (oi := _) (v := ?vb0x2) rfl (by kernel_rfl) (by kernel_rfl) (by kernel_rfl) (fun _ _ _ h => h) (Or.inl ⟨by rfl, ?hyb0x2⟩) (by assumption) ?restb0x2
                 case hyb0x2 => ((intro w hSw; (try dsimp only at hSw); go_simp) <;> (with_reducible rfl))
                 case restb0x2 =>
                  try simp only [Act.put, List.setIfInBounds_toArray, List.set_cons_zero, List.set_cons_succ]
                  refine wpAnyH_take (i := 5) (oi := _) (v := ?vb0x3) rfl (by kernel_rfl) (by kernel_rfl) (by kernel_rfl) (fun _ _ _ h => h) (Or.inl ⟨by rfl, ?hyb0x3⟩) (by assumption) ?restb0x3
                  case hyb0x3 => ((intro w hSw; (try dsimp only at hSw); go_simp) <;> (with_reducible rfl))
                  case restb0x3 =>
                   try simp only [Act.put, List.setIfInBounds_toArray, List.set_cons_zero, List.set_cons_succ]
                   refine wpAnyH_take (i := 6) (oi := _) (v := ?vb0x4) rfl (by kernel_rfl) (by kernel_rfl) (by kernel_rfl) (fun _ _ _ h => h) (Or.inl ⟨by rfl, ?hyb0x4⟩) (by assumption) ?restb0x4
                   case hyb0x4 => ((intro w hSw; (try dsimp only at hSw); go_simp) <;> (with_reducible rfl))
                   case restb0x4 =>
                    try simp only [Act.put, List.setIfInBounds_toArray, List.set_cons_zero, List.set_cons_succ]
                    refine wpAnyH_ready (rs := [0, 7]) (by kernel_rfl) (by simp) ?_
                    refine AllReadyH.cons (o := _) rfl (fun K hK => ?stb0x5) ?moreb0x5
                    case stb0x5 =>
                      go_simp
                      refine hK.out _ _ ?hSb0x5 (fun hHeld => ?restb0x5)
                      case hSb0x5 => ((try dsimp only); first | with_reducible exact hHeld | with_reducible exact HSK.out _ (ext_drew _) | with_reducible exact HSK.out _ (ext_trans (ext_alloc _ _) (ext_drew _)) | with_reducible exact HSK.out _ (ext_trans (ext_drew _) (ext_alloc _ _)) | with_reducible exact HSK.out _ hx5 | with_reducible exact HSK.out _ (ext_trans hx5 (ext_alloc _ _)))
                      case restb0x5 =>
                        clear hK K
                        try simp only [Act.put, List.setIfInBounds_toArray, List.set_cons_zero, List.set_cons_succ]
                        refine wpAnyH_ready (rs := [3, 7]) (by kernel_rfl) (by simp) ?_
                        refine AllReadyH.cons (o := _) rfl (fun K hK => ?stb0x6) ?moreb0x6
                        case stb0x6 =>
                          go_simp
                          refine hK.out _ _ ?hSb0x6 (fun hHeld => ?restb0x6)
                          case hSb0x6 => ((try dsimp only); first | with_reducible exact hHeld | with_reducible exact HSK.out _ (ext_drew _) | with_reducible exact HSK.out _ (ext_trans (ext_alloc _ _) (ext_drew _)) | with_reducible exact HSK.out _ (ext_trans (ext_drew _) (ext_alloc _ _)) | with_reducible exact HSK.out _ hx5 | with_reducible exact HSK.out _ (ext_trans hx5 (ext_alloc _ _)))
                          case restb0x6 =>
                            clear hK K
                            try simp only [Act.put, List.setIfInBounds_toArray, List.set_cons_zero, List.set_cons_succ]
                            refine wpAnyH_ready (rs := [4, 7]) (by kernel_rfl) (by simp) ?_
                            refine AllReadyH.cons (o := _) rfl (fun K hK => ?stb0x7) ?moreb0x7
                            case stb0x7 =>
                              go_simp
                              refine hK.out _ _ ?hSb0x7 (fun hHeld => ?restb0x7)
                              case hSb0x7 => ((try dsimp only); first | with_reducible exact hHeld | with_reducible exact HSK.out _ (ext_drew _) | with_reducible exact HSK.out _ (ext_trans (ext_alloc _ _) (ext_drew _)) | with_reducible exact HSK.out _ (ext_trans (ext_drew _) (ext_alloc _ _)) | with_reducible exact HSK.out _ hx5 | with_reducible exact HSK.out _ (ext_trans hx5 (ext_alloc _ _)))
                              case restb0x7 =>
                                clear hK K
                                try simp only [Act.put, List.setIfInBounds_toArray, List.set_cons_zero, List.set_cons_succ]
                                refine wpAnyH_ready (rs := [7]) (by kernel_rfl) (by simp) ?_
                                refine AllReadyH.cons (o := _) rfl (fun K hK => ?stb0x8) ?moreb0x8
                                case stb0x8 =>
                                  go_simp
                                  go_at_call 41
                                  (with_reducible refine (HT1.out _ ?_).mono ?_)
                                  ((first | with_reducible exact ext_drew _ | with_reducible exact ext_trans (ext_alloc _ _) (ext_drew _) | with_reducible exact ext_trans (ext_drew _) (ext_alloc _ _)))
                                  rintro e w5 ⟨rfl, hb5⟩
                                  have hx5 : Below (World.heap W0).size W0 w5 := first_belowI hb5 (by (first | with_reducible exact ext_drew _ | with_reducible exact ext_trans (ext_alloc _ _) (ext_drew _) | with_reducible exact ext_trans (ext_drew _) (ext_alloc _ _)))
                                  have hlc : World.cell? w5 ⟨(World.heap W0).size, 0, none⟩ = some (.string ⟨#[110]⟩) := (hb5.cell (p := ⟨(World.heap W0).size, 0, none⟩) (by simp)).trans (by simp)
                                  refine hK.out _ _ ?hSb0x8 (fun hHeld => ?restb0x8)
                                  case hSb0x8 => ((try dsimp only); first | with_reducible exact hHeld | with_reducible exact HSK.out _ (ext_drew _) | with_reducible exact HSK.out _ (ext_trans (ext_alloc _ _) (ext_drew _)) | with_reducible exact HSK.out _ (ext_trans (ext_drew _) (ext_alloc _ _)) | with_reducible exact HSK.out _ hx5 | with_reducible exact HSK.out _ (ext_trans hx5 (ext_alloc _ _)))
                                  case restb0x8 =>
                                    clear hK K
                                    try simp only [Act.put, List.setIfInBounds_toArray, List.set_cons_zero, List.set_cons_succ]
                                    refine wpAnyH_ready (rs := [8]) (by kernel_rfl) (by simp) ?_
                                    refine AllReadyH.cons (o := _) rfl (fun K hK => ?stb0x9) ?moreb0x9
                                    case stb0x9 =>
                                      go_simp
                                      refine hK.out _ _ ?hSb0x9 (fun hHeld => ?restb0x9)
                                      case hSb0x9 => ((try dsimp only); first | with_reducible exact hHeld | with_reducible exact HSK.out _ (ext_drew _) | with_reducible exact HSK.out _ (ext_trans (ext_alloc _ _) (ext_drew _)) | with_reducible exact HSK.out _ (ext_trans (ext_drew _) (ext_alloc _ _)) | with_reducible exact HSK.out _ hx5 | with_reducible exact HSK.out _ (ext_trans hx5 (ext_alloc _ _)))
                                      case restb0x9 =>
                                        clear hK K
                                        try simp only [Act.put, List.setIfInBounds_toArray, List.set_cons_zero, List.set_cons_succ]
                                        refine wpAnyH_ready (rs := [9]) (by kernel_rfl) (by simp) ?_
                                        refine AllReadyH.cons (o := _) rfl (fun K hK => ?stb0x10) ?moreb0x10
                                        case stb0x10 =>
                                          go_simp
                                          refine hK.out _ _ ?hSb0x10 (fun hHeld => ?restb0x10)
                                          case hSb0x10 => ((try dsimp only); first | with_reducible exact hHeld | with_reducible exact HSK.out _ (ext_drew _) | with_reducible exact HSK.out _ (ext_trans (ext_alloc _ _) (ext_drew _)) | with_reducible exact HSK.out _ (ext_trans (ext_drew _) (ext_alloc _ _)) | with_reducible exact HSK.out _ hx5 | with_reducible exact HSK.out _ (ext_trans hx5 (ext_alloc _ _)))
                                          case restb0x10 =>
                                            clear hK K
                                            try simp only [Act.put, List.setIfInBounds_toArray, List.set_cons_zero, List.set_cons_succ]
                                            refine wpAnyH_done (by kernel_rfl) ?_ _
                                            go_wp2
                                            go_meet
                                            exact ⟨rfl, by first | exact hx5 | (exact hHeld.2.2)⟩
                                        case moreb0x10 =>
                                         exact AllReadyH.nil
                                    case moreb0x9 =>
                                     exact AllReadyH.nil
                                case moreb0x8 =>
                                 exact AllReadyH.nil
                            case moreb0x7 =>
                             refine AllReadyH.cons (o := _) rfl (fun K hK => ?stb0x11) ?moreb0x11
                             case stb0x11 =>
                               go_simp
                               go_at_call 41
                               (with_reducible refine (HT1.out _ ?_).mono ?_)
                               ((first | with_reducible exact ext_drew _ | with_reducible exact ext_trans (ext_alloc _ _) (ext_drew _) | with_reducible exact ext_trans (ext_drew _) (ext_alloc _ _)))
                               rintro e w5 ⟨rfl, hb5⟩
                               have hx5 : Below (World.heap W0).size W0 w5 := first_belowI hb5 (by (first | with_reducible exact ext_drew _ | with_reducible exact ext_trans (ext_alloc _ _) (ext_drew _) | with_reducible exact ext_trans (ext_drew _) (ext_alloc _ _)))
                               have hlc : World.cell? w5 ⟨(World.heap W0).size, 0, none⟩ = some (.string ⟨#[110]⟩) := (hb5.cell (p := ⟨(World.heap W0).size, 0, none⟩) (by simp)).trans (by simp)
                               refine hK.out _ _ ?hSb0x11 (fun hHeld => ?restb0x11)
                               case hSb0x11 => ((try dsimp only); first | with_reducible exact hHeld | with_reducible exact HSK.out _ (ext_drew _) | with_reducible exact HSK.out _ (ext_trans (ext_alloc _ _) (ext_drew _)) | with_reducible exact HSK.out _ (ext_trans (ext_drew _) (ext_alloc _ _)) | with_reducible exact HSK.out _ hx5 | with_reducible exact HSK.out _ (ext_trans hx5 (ext_alloc _ _)))
                               case restb0x11 =>
                                 clear hK K
                                 try simp only [Act.put, List.setIfInBounds_toArray, List.set_cons_zero, List.set_cons_succ]
                                 refine wpAnyH_ready (rs := [4]) (by kernel_rfl) (by simp) ?_
                                 refine AllReadyH.cons (o := _) rfl (fun K hK => ?stb0x12) ?moreb0x12
                                 case stb0x12 =>
                                   go_simp
                                   refine hK.out _ _ ?hSb0x12 (fun hHeld => ?restb0x12)
                                   case hSb0x12 => ((try dsimp only); first | with_reducible exact hHeld | with_reducible exact HSK.out _ (ext_drew _) | with_reducible exact HSK.out _ (ext_trans (ext_alloc _ _) (ext_drew _)) | with_reducible exact HSK.out _ (ext_trans (ext_drew _) (ext_alloc _ _)) | with_reducible exact HSK.out _ hx5 | with_reducible exact HSK.out _ (ext_trans hx5 (ext_alloc _ _)))
                                   case restb0x12 =>
                                     clear hK K
                                     try simp only [Act.put, List.setIfInBounds_toArray, List.set_cons_zero, List.set_cons_succ]
                                     refine wpAnyH_ready (rs := [8]) (by kernel_rfl) (by simp) ?_
                                     refine AllReadyH.cons (o := _) rfl (fun K hK => ?stb0x13) ?moreb0x13
                                     case stb0x13 =>
                                       go_simp
                                       refine hK.out _ _ ?hSb0x13 (fun hHeld => ?restb0x13)
                                       case hSb0x13 => ((try dsimp only); first | with_reducible exact hHeld | with_reducible exact HSK.out _ (ext_drew _) | with_reducible exact HSK.out _ (ext_trans (ext_alloc _ _) (ext_drew _)) | with_reducible exact HSK.out _ (ext_trans (ext_drew _) (ext_alloc _ _)) | with_reducible exact HSK.out _ hx5 | with_reducible exact HSK.out _ (ext_trans hx5 (ext_alloc _ _)))
                                       case restb0x13 =>
                                         clear hK K
                                         try simp only [Act.put, List.setIfInBounds_toArray, List.set_cons_zero, List.set_cons_succ]
                                         refine wpAnyH_ready (rs := [9]) (by kernel_rfl) (by simp) ?_
                                         refine AllReadyH.cons (o := _) rfl (fun K hK => ?stb0x14) ?moreb0x14
                                         case stb0x14 =>
                                           go_simp
                                           refine hK.out _ _ ?hSb0x14 (fun hHeld => ?restb0x14)
                                           case hSb0x14 => ((try dsimp only); first | with_reducible exact hHeld | with_reducible exact HSK.out _ (ext_drew _) | with_reducible exact HSK.out _ (ext_trans (ext_alloc _ _) (ext_drew _)) | with_reducible exact HSK.out _ (ext_trans (ext_drew _) (ext_alloc _ _)) | with_reducible exact HSK.out _ hx5 | with_reducible exact HSK.out _ (ext_trans hx5 (ext_alloc _ _)))
                                           case restb0x14 =>
                                             clear hK K
                                             try simp only [Act.put, List.setIfInBounds_toArray, List.set_cons_zero, List.set_cons_succ]
                                             refine wpAnyH_done (by kernel_rfl) ?_ _
                                             go_wp2
                                             go_meet
                                             exact ⟨rfl, by first | exact hx5 | (exact hHeld.2.2)⟩
                                         case moreb0x14 =>
                                          exact AllReadyH.nil
                                     case moreb0x13 =>
                                      exact AllReadyH.nil
                                 case moreb0x12 =>
                                  exact AllReadyH.nil
                             case moreb0x11 =>
                              exact AllReadyH.nil
                        case moreb0x6 =>
                         refine AllReadyH.cons (o := _) rfl (fun K hK => ?stb0x15) ?moreb0x15
                         case stb0x15 =>
                           go_simp
                           go_at_call 41
                           (with_reducible refine (HT1.out _ ?_).mono ?_)
                           ((first | with_reducible exact ext_drew _ | with_reducible exact ext_trans (ext_alloc _ _) (ext_drew _) | with_reducible exact ext_trans (ext_drew _) (ext_alloc _ _)))
                           rintro e w5 ⟨rfl, hb5⟩
                           have hx5 : Below (World.heap W0).size W0 w5 := first_belowI hb5 (by (first | with_reducible exact ext_drew _ | with_reducible exact ext_trans (ext_alloc _ _) (ext_drew _) | with_reducible exact ext_trans (ext_drew _) (ext_alloc _ _)))
                           have hlc : World.cell? w5 ⟨(World.heap W0).size, 0, none⟩ = some (.string ⟨#[110]⟩) := (hb5.cell (p := ⟨(World.heap W0).size, 0, none⟩) (by simp)).trans (by simp)
                           refine hK.out _ _ ?hSb0x15 (fun hHeld => ?restb0x15)
                           case hSb0x15 => ((try dsimp only); first | with_reducible exact hHeld | with_reducible exact HSK.out _ (ext_drew _) | with_reducible exact HSK.out _ (ext_trans (ext_alloc _ _) (ext_drew _)) | with_reducible exact HSK.out _ (ext_trans (ext_drew _) (ext_alloc _ _)) | with_reducible exact HSK.out _ hx5 | with_reducible exact HSK.out _ (ext_trans hx5 (ext_alloc _ _)))
                           case restb0x15 =>
                             clear hK K
                             try simp only [Act.put, List.setIfInBounds_toArray, List.set_cons_zero, List.set_cons_succ]
                             refine wpAnyH_ready (rs := [3]) (by kernel_rfl) (by simp) ?_
                             refine AllReadyH.cons (o := _) rfl (fun K hK => ?stb0x16) ?moreb0x16
                             case stb0x16 =>
                               go_simp
                               refine hK.out _ _ ?hSb0x16 (fun hHeld => ?restb0x16)
                               case hSb0x16 => ((try dsimp only); first | with_reducible exact hHeld | with_reducible exact HSK.out _ (ext_drew _) | with_reducible exact HSK.out _ (ext_trans (ext_alloc _ _) (ext_drew _)) | with_reducible exact HSK.out _ (ext_trans (ext_drew _) (ext_alloc _ _)) | with_reducible exact HSK.out _ hx5 | with_reducible exact HSK.out _ (ext_trans hx5 (ext_alloc _ _)))
                               case restb0x16 =>
                                 clear hK K
                                 try simp only [Act.put, List.setIfInBounds_toArray, List.set_cons_zero, List.set_cons_succ]
                                 refine wpAnyH_ready (rs := [4]) (by kernel_rfl) (by simp) ?_
                                 refine AllReadyH.cons (o := _) rfl (fun K hK => ?stb0x17) ?moreb0x17
                                 case stb0x17 =>
                                   go_simp
                                   refine hK.out _ _ ?hSb0x17 (fun hHeld => ?restb0x17)
                                   case hSb0x17 => ((try dsimp only); first | with_reducible exact hHeld | with_reducible exact HSK.out _ (ext_drew _) | with_reducible exact HSK.out _ (ext_trans (ext_alloc _ _) (ext_drew _)) | with_reducible exact HSK.out _ (ext_trans (ext_drew _) (ext_alloc _ _)) | with_reducible exact HSK.out _ hx5 | with_reducible exact HSK.out _ (ext_trans hx5 (ext_alloc _ _)))
                                   case restb0x17 =>
                                     clear hK K
                                     try simp only [Act.put, List.setIfInBounds_toArray, List.set_cons_zero, List.set_cons_succ]
                                     refine wpAnyH_ready (rs := [8]) (by kernel_rfl) (by simp) ?_
                                     refine AllReadyH.cons (o := _) rfl (fun K hK => ?stb0x18) ?moreb0x18
                                     case stb0x18 =>
                                       go_simp
                                       refine hK.out _ _ ?hSb0x18 (fun hHeld => ?restb0x18)
                                       case hSb0x18 => ((try dsimp only); first | with_reducible exact hHeld | with_reducible exact HSK.out _ (ext_drew _) | with_reducible exact HSK.out _ (ext_trans (ext_alloc _ _) (ext_drew _)) | with_reducible exact HSK.out _ (ext_trans (ext_drew _) (ext_alloc _ _)) | with_reducible exact HSK.out _ hx5 | with_reducible exact HSK.out _ (ext_trans hx5 (ext_alloc _ _)))
                                       case restb0x18 =>
                                         clear hK K
                                         try simp only [Act.put, List.setIfInBounds_toArray, List.set_cons_zero, List.set_cons_succ]
                                         refine wpAnyH_ready (rs := [9]) (by kernel_rfl) (by simp) ?_
                                         refine AllReadyH.cons (o := _) rfl (fun K hK => ?stb0x19) ?moreb0x19
                                         case stb0x19 =>
                                           go_simp
                                           refine hK.out _ _ ?hSb0x19 (fun hHeld => ?restb0x19)
                                           case hSb0x19 => ((try dsimp only); first | with_reducible exact hHeld | with_reducible exact HSK.out _ (ext_drew _) | with_reducible exact HSK.out _ (ext_trans (ext_alloc _ _) (ext_drew _)) | with_reducible exact HSK.out _ (ext_trans (ext_drew _) (ext_alloc _ _)) | with_reducible exact HSK.out _ hx5 | with_reducible exact HSK.out _ (ext_trans hx5 (ext_alloc _ _)))
                                           case restb0x19 =>
                                             clear hK K
                                             try simp only [Act.put, List.setIfInBounds_toArray, List.set_cons_zero, List.set_cons_succ]
                                             refine wpAnyH_done (by kernel_rfl) ?_ _
                                             go_wp2
                                             go_meet
                                             exact ⟨rfl, by first | exact hx5 | (exact hHeld.2.2)⟩
                                         case moreb0x19 =>
                                          exact AllReadyH.nil
                                     case moreb0x18 =>
                                      exact AllReadyH.nil
                                 case moreb0x17 =>
                                  exact AllReadyH.nil
                             case moreb0x16 =>
                              exact AllReadyH.nil
                         case moreb0x15 =>
                          exact AllReadyH.nil
                    case moreb0x5 =>
                     refine AllReadyH.cons (o := _) rfl (fun K hK => ?stb0x20) ?moreb0x20
                     case stb0x20 =>
                       go_simp
                       go_at_call 41
                       (with_reducible refine (HT1.out _ ?_).mono ?_)
                       ((first | with_reducible exact ext_drew _ | with_reducible exact ext_trans (ext_alloc _ _) (ext_drew _) | with_reducible exact ext_trans (ext_drew _) (ext_alloc _ _)))
                       rintro e w5 ⟨rfl, hb5⟩
                       have hx5 : Below (World.heap W0).size W0 w5 := first_belowI hb5 (by (first | with_reducible exact ext_drew _ | with_reducible exact ext_trans (ext_alloc _ _) (ext_drew _) | with_reducible exact ext_trans (ext_drew _) (ext_alloc _ _)))
                       refine hK.out _ _ ?hSb0x20 (fun hHeld => ?restb0x20)
                       case hSb0x20 => ((try dsimp only); first | with_reducible exact hHeld | with_reducible exact HSK.out _ (ext_drew _) | with_reducible exact HSK.out _ (ext_trans (ext_alloc _ _) (ext_drew _)) | with_reducible exact HSK.out _ (ext_trans (ext_drew _) (ext_alloc _ _)) | with_reducible exact HSK.out _ hx5 | with_reducible exact HSK.out _ (ext_trans hx5 (ext_alloc _ _)))
                       case restb0x20 =>
                         clear hK K
                         try simp only [Act.put, List.setIfInBounds_toArray, List.set_cons_zero, List.set_cons_succ]
                         refine wpAnyH_ready (rs := [0]) (by kernel_rfl) (by simp) ?_
                         refine AllReadyH.cons (o := _) rfl (fun K hK => ?stb0x21) ?moreb0x21
                         case stb0x21 =>
                           go_simp
                           refine hK.out _ _ ?hSb0x21 (fun hHeld => ?restb0x21)
                           case hSb0x21 => ((try dsimp only); first | with_reducible exact hHeld | with_reducible exact HSK.out _ (ext_drew _) | with_reducible exact HSK.out _ (ext_trans (ext_alloc _ _) (ext_drew _)) | with_reducible exact HSK.out _ (ext_trans (ext_drew _) (ext_alloc _ _)) | with_reducible exact HSK.out _ hx5 | with_reducible exact HSK.out _ (ext_trans hx5 (ext_alloc _ _)))
                           case restb0x21 =>
                             clear hK K
                             try simp only [Act.put, List.setIfInBounds_toArray, List.set_cons_zero, List.set_cons_succ]
                             refine wpAnyH_ready (rs := [3]) (by kernel_rfl) (by simp) ?_
                             refine AllReadyH.cons (o := _) rfl (fun K hK => ?stb0x22) ?moreb0x22
                             case stb0x22 =>
                               go_simp
                               refine hK.out _ _ ?hSb0x22 (fun hHeld => ?restb0x22)
                               case hSb0x22 => ((try dsimp only); first | with_reducible exact hHeld | with_reducible exact HSK.out _ (ext_drew _) | with_reducible exact HSK.out _ (ext_trans (ext_alloc _ _) (ext_drew _)) | with_reducible exact HSK.out _ (ext_trans (ext_drew _) (ext_alloc _ _)) | with_reducible exact HSK.out _ hx5 | with_reducible exact HSK.out _ (ext_trans hx5 (ext_alloc _ _)))
                               case restb0x22 =>
                                 clear hK K
                                 try simp only [Act.put, List.setIfInBounds_toArray, List.set_cons_zero, List.set_cons_succ]
                                 refine wpAnyH_ready (rs := [4]) (by kernel_rfl) (by simp) ?_
                                 refine AllReadyH.cons (o := _) rfl (fun K hK => ?stb0x23) ?moreb0x23
                                 case stb0x23 =>
                                   go_simp
                                   refine hK.out _ _ ?hSb0x23 (fun hHeld => ?restb0x23)
                                   case hSb0x23 => ((try dsimp only); first | with_reducible exact hHeld | with_reducible exact HSK.out _ (ext_drew _) | with_reducible exact HSK.out _ (ext_trans (ext_alloc _ _) (ext_drew _)) | with_reducible exact HSK.out _ (ext_trans (ext_drew _) (ext_alloc _ _)) | with_reducible exact HSK.out _ hx5 | with_reducible exact HSK.out _ (ext_trans hx5 (ext_alloc _ _)))
                                   case restb0x23 =>
                                     clear hK K
                                     try simp only [Act.put, List.setIfInBounds_toArray, List.set_cons_zero, List.set_cons_succ]
                                     refine wpAnyH_ready (rs := [8]) (by kernel_rfl) (by simp) ?_
                                     refine AllReadyH.cons (o := _) rfl (fun K hK => ?stb0x24) ?moreb0x24
                                     case stb0x24 =>
                                       go_simp
                                       refine hK.out _ _ ?hSb0x24 (fun hHeld => ?restb0x24)
                                       case hSb0x24 => ((try dsimp only); first | with_reducible exact hHeld | with_reducible exact HSK.out _ (ext_drew _) | with_reducible exact HSK.out _ (ext_trans (ext_alloc _ _) (ext_drew _)) | with_reducible exact HSK.out _ (ext_trans (ext_drew _) (ext_alloc _ _)) | with_reducible exact HSK.out _ hx5 | with_reducible exact HSK.out _ (ext_trans hx5 (ext_alloc _ _)))
                                       case restb0x24 =>
                                         clear hK K
                                         try simp only [Act.put, List.setIfInBounds_toArray, List.set_cons_zero, List.set_cons_succ]
                                         refine wpAnyH_ready (rs := [9]) (by kernel_rfl) (by simp) ?_
                                         refine AllReadyH.cons (o := _) rfl (fun K hK => ?stb0x25) ?moreb0x25
                                         case stb0x25 =>
                                           go_simp
                                           refine hK.out _ _ ?hSb0x25 (fun hHeld => ?restb0x25)
                                           case hSb0x25 => ((try dsimp only); first | with_reducible exact hHeld | with_reducible exact HSK.out _ (ext_drew _) | with_reducible exact HSK.out _ (ext_trans (ext_alloc _ _) (ext_drew _)) | with_reducible exact HSK.out _ (ext_trans (ext_drew _) (ext_alloc _ _)) | with_reducible exact HSK.out _ hx5 | with_reducible exact HSK.out _ (ext_trans hx5 (ext_alloc _ _)))
                                           case restb0x25 =>
                                             clear hK K
                                             try simp only [Act.put, List.setIfInBounds_toArray, List.set_cons_zero, List.set_cons_succ]
                                             refine wpAnyH_done (by kernel_rfl) ?_ _
                                             go_wp2
                                             go_meet
                                             exact ⟨rfl, by first | exact hx5 | (exact hHeld.2.2)⟩
                                         case moreb0x25 =>
                                          exact AllReadyH.nil
                                     case moreb0x24 =>
                                      exact AllReadyH.nil
                                 case moreb0x23 =>
                                  exact AllReadyH.nil
                             case moreb0x22 =>
                              exact AllReadyH.nil
                         case moreb0x21 =>
                          exact AllReadyH.nil
                     case moreb0x20 =>
                      exact AllReadyH.nil
            · have HSK := Lib.hid (fun (w' : World) (hb : Below (World.heap W0).size W0 w') => (show World.cell? w' ⟨wr.heap.size, 0, none⟩ = some (.int .i64 1) ∧ World.cell? w' ⟨wr.heap.size, 1, none⟩ = some (.int .i64 (u : Int)) ∧ Below (World.heap W0).size W0 w' from ⟨(hb.cell (p := ⟨wr.heap.size, 0, none⟩) hyb).trans v0, (hb.cell (p := ⟨wr.heap.size, 1, none⟩) hyb).trans v1, hb⟩))
              refine wp_region_held_drew (S := (fun w' => World.cell? w' ⟨wr.heap.size, 0, none⟩ = some (.int .i64 1) ∧ World.cell? w' ⟨wr.heap.size, 1, none⟩ = some (.int .i64 (u : Int)) ∧ Below (World.heap W0).size W0 w')) (by kernel_rfl) ?hSb1x0 (fun hHeld => ?restb1x0)
              case hSb1x0 => ((try dsimp only); first | with_reducible exact hHeld | with_reducible exact HSK.out _ (ext_drew _) | with_reducible exact HSK.out _ (ext_trans (ext_alloc _ _) (ext_drew _)) | with_reducible exact HSK.out _ (ext_trans (ext_drew _) (ext_alloc _ _)) | with_reducible exact HSK.out _ hx5 | with_reducible exact HSK.out _ (ext_trans hx5 (ext_alloc _ _)))
              case restb1x0 =>
                refine wpAnyH_take (i := 1) (oi := _) (v := ?vb1x1) rfl (by kernel_rfl) (by kernel_rfl) (by kernel_rfl) (fun _ _ _ h => h) (Or.inl ⟨by rfl, ?hyb1x1⟩) (by assumption) ?restb1x1
                case hyb1x1 => ((intro w hSw; (try dsimp only at hSw); go_simp) <;> (with_reducible rfl))
                case restb1x1 =>
                 try simp only [Act.put, List.setIfInBounds_toArray, List.set_cons_zero, List.set_cons_succ]
                 refine wpAnyH_take (i := 2) (oi := _) (v := ?vb1x2) rfl (by kernel_rfl) (by kernel_rfl) (by kernel_rfl) (fun _ _ _ h => h) (Or.inl ⟨by rfl, ?hyb1x2⟩) (by assumption) ?restb1x2
                 case hyb1x2 => ((intro w hSw; (try dsimp only at hSw); go_simp) <;> (with_reducible rfl))
                 case restb1x2 =>
                  try simp only [Act.put, List.setIfInBounds_toArray, List.set_cons_zero, List.set_cons_succ]
                  refine wpAnyH_take (i := 5) (oi := _) (v := ?vb1x3) rfl (by kernel_rfl) (by kernel_rfl) (by kernel_rfl) (fun _ _ _ h => h) (Or.inl ⟨by rfl, ?hyb1x3⟩) (by assumption) ?restb1x3
                  case hyb1x3 => ((intro w hSw; (try dsimp only at hSw); go_simp) <;> (with_reducible rfl))
                  case restb1x3 =>
                   try simp only [Act.put, List.setIfInBounds_toArray, List.set_cons_zero, List.set_cons_succ]
                   refine wpAnyH_take (i := 6) (oi := _) (v := ?vb1x4) rfl (by kernel_rfl) (by kernel_rfl) (by kernel_rfl) (fun _ _ _ h => h) (Or.inl ⟨by rfl, ?hyb1x4⟩) (by assumption) ?restb1x4
                   case hyb1x4 => ((intro w hSw; (try dsimp only at hSw); go_simp) <;> (with_reducible rfl))
                   case restb1x4 =>
                    try simp only [Act.put, List.setIfInBounds_toArray, List.set_cons_zero, List.set_cons_succ]
                    refine wpAnyH_ready (rs := [0, 7]) (by kernel_rfl) (by simp) ?_
                    refine AllReadyH.cons (o := _) rfl (fun K hK => ?stb1x5) ?moreb1x5
                    case stb1x5 =>
                      go_simp
                      refine hK.out _ _ ?hSb1x5 (fun hHeld => ?restb1x5)
                      case hSb1x5 => ((try dsimp only); first | with_reducible exact hHeld | with_reducible exact HSK.out _ (ext_drew _) | with_reducible exact HSK.out _ (ext_trans (ext_alloc _ _) (ext_drew _)) | with_reducible exact HSK.out _ (ext_trans (ext_drew _) (ext_alloc _ _)) | with_reducible exact HSK.out _ hx5 | with_reducible exact HSK.out _ (ext_trans hx5 (ext_alloc _ _)))
                      case restb1x5 =>
                        clear hK K
                        try simp only [Act.put, List.setIfInBounds_toArray, List.set_cons_zero, List.set_cons_succ]
                        refine wpAnyH_ready (rs := [3, 7]) (by kernel_rfl) (by simp) ?_
                        refine AllReadyH.cons (o := _) rfl (fun K hK => ?stb1x6) ?moreb1x6
                        case stb1x6 =>
                          go_simp
                          refine hK.out _ _ ?hSb1x6 (fun hHeld => ?restb1x6)
                          case hSb1x6 => ((try dsimp only); first | with_reducible exact hHeld | with_reducible exact HSK.out _ (ext_drew _) | with_reducible exact HSK.out _ (ext_trans (ext_alloc _ _) (ext_drew _)) | with_reducible exact HSK.out _ (ext_trans (ext_drew _) (ext_alloc _ _)) | with_reducible exact HSK.out _ hx5 | with_reducible exact HSK.out _ (ext_trans hx5 (ext_alloc _ _)))
                          case restb1x6 =>
                            clear hK K
                            try simp only [Act.put, List.setIfInBounds_toArray, List.set_cons_zero, List.set_cons_succ]
                            refine wpAnyH_ready (rs := [4, 7]) (by kernel_rfl) (by simp) ?_
                            refine AllReadyH.cons (o := _) rfl (fun K hK => ?stb1x7) ?moreb1x7
                            case stb1x7 =>
                              go_simp
                              refine hK.out _ _ ?hSb1x7 (fun hHeld => ?restb1x7)
                              case hSb1x7 => ((try dsimp only); first | with_reducible exact hHeld | with_reducible exact HSK.out _ (ext_drew _) | with_reducible exact HSK.out _ (ext_trans (ext_alloc _ _) (ext_drew _)) | with_reducible exact HSK.out _ (ext_trans (ext_drew _) (ext_alloc _ _)) | with_reducible exact HSK.out _ hx5 | with_reducible exact HSK.out _ (ext_trans hx5 (ext_alloc _ _)))
                              case restb1x7 =>
                                clear hK K
                                try simp only [Act.put, List.setIfInBounds_toArray, List.set_cons_zero, List.set_cons_succ]
                                refine wpAnyH_ready (rs := [7]) (by kernel_rfl) (by simp) ?_
                                refine AllReadyH.cons (o := _) rfl (fun K hK => ?stb1x8) ?moreb1x8
                                case stb1x8 =>
                                  go_simp
                                  go_at_call 41
                                  (with_reducible refine (HT1.out _ ?_).mono ?_)
                                  ((first | with_reducible exact ext_drew _ | with_reducible exact ext_trans (ext_alloc _ _) (ext_drew _) | with_reducible exact ext_trans (ext_drew _) (ext_alloc _ _)))
                                  rintro e w5 ⟨rfl, hb5⟩
                                  have hx5 : Below (World.heap W0).size W0 w5 := first_belowI hb5 (by (first | with_reducible exact ext_drew _ | with_reducible exact ext_trans (ext_alloc _ _) (ext_drew _) | with_reducible exact ext_trans (ext_drew _) (ext_alloc _ _)))
                                  have hlc : World.cell? w5 ⟨(World.heap W0).size, 1, none⟩ = some (.string ⟨#[110, 101]⟩) := (hb5.cell (p := ⟨(World.heap W0).size, 1, none⟩) (by simp)).trans (by simp)
                                  refine hK.out _ _ ?hSb1x8 (fun hHeld => ?restb1x8)
                                  case hSb1x8 => ((try dsimp only); first | with_reducible exact hHeld | with_reducible exact HSK.out _ (ext_drew _) | with_reducible exact HSK.out _ (ext_trans (ext_alloc _ _) (ext_drew _)) | with_reducible exact HSK.out _ (ext_trans (ext_drew _) (ext_alloc _ _)) | with_reducible exact HSK.out _ hx5 | with_reducible exact HSK.out _ (ext_trans hx5 (ext_alloc _ _)))
                                  case restb1x8 =>
                                    clear hK K
                                    try simp only [Act.put, List.setIfInBounds_toArray, List.set_cons_zero, List.set_cons_succ]
                                    refine wpAnyH_ready (rs := [8]) (by kernel_rfl) (by simp) ?_
                                    refine AllReadyH.cons (o := _) rfl (fun K hK => ?stb1x9) ?moreb1x9
                                    case stb1x9 =>
                                      go_simp
                                      refine hK.out _ _ ?hSb1x9 (fun hHeld => ?restb1x9)
                                      case hSb1x9 => ((try dsimp only); first | with_reducible exact hHeld | with_reducible exact HSK.out _ (ext_drew _) | with_reducible exact HSK.out _ (ext_trans (ext_alloc _ _) (ext_drew _)) | with_reducible exact HSK.out _ (ext_trans (ext_drew _) (ext_alloc _ _)) | with_reducible exact HSK.out _ hx5 | with_reducible exact HSK.out _ (ext_trans hx5 (ext_alloc _ _)))
                                      case restb1x9 =>
                                        clear hK K
                                        try simp only [Act.put, List.setIfInBounds_toArray, List.set_cons_zero, List.set_cons_succ]
                                        refine wpAnyH_ready (rs := [9]) (by kernel_rfl) (by simp) ?_
                                        refine AllReadyH.cons (o := _) rfl (fun K hK => ?stb1x10) ?moreb1x10
                                        case stb1x10 =>
                                          go_simp
                                          refine hK.out _ _ ?hSb1x10 (fun hHeld => ?restb1x10)
                                          case hSb1x10 => ((try dsimp only); first | with_reducible exact hHeld | with_reducible exact HSK.out _ (ext_drew _) | with_reducible exact HSK.out _ (ext_trans (ext_alloc _ _) (ext_drew _)) | with_reducible exact HSK.out _ (ext_trans (ext_drew _) (ext_alloc _ _)) | with_reducible exact HSK.out _ hx5 | with_reducible exact HSK.out _ (ext_trans hx5 (ext_alloc _ _)))
                                          case restb1x10 =>
                                            clear hK K
                                            try simp only [Act.put, List.setIfInBounds_toArray, List.set_cons_zero, List.set_cons_succ]
                                            refine wpAnyH_done (by kernel_rfl) ?_ _
                                            go_wp2
                                            go_meet
                                            exact ⟨rfl, by first | exact hx5 | (exact hHeld.2.2)⟩
                                        case moreb1x10 =>
                                         exact AllReadyH.nil
                                    case moreb1x9 =>
                                     exact AllReadyH.nil
                                case moreb1x8 =>
                                 exact AllReadyH.nil
                            case moreb1x7 =>
                             refine AllReadyH.cons (o := _) rfl (fun K hK => ?stb1x11) ?moreb1x11
                             case stb1x11 =>
                               go_simp
                               go_at_call 41
                               (with_reducible refine (HT1.out _ ?_).mono ?_)
                               ((first | with_reducible exact ext_drew _ | with_reducible exact ext_trans (ext_alloc _ _) (ext_drew _) | with_reducible exact ext_trans (ext_drew _) (ext_alloc _ _)))
                               rintro e w5 ⟨rfl, hb5⟩
                               have hx5 : Below (World.heap W0).size W0 w5 := first_belowI hb5 (by (first | with_reducible exact ext_drew _ | with_reducible exact ext_trans (ext_alloc _ _) (ext_drew _) | with_reducible exact ext_trans (ext_drew _) (ext_alloc _ _)))
                               have hlc : World.cell? w5 ⟨(World.heap W0).size, 1, none⟩ = some (.string ⟨#[110, 101]⟩) := (hb5.cell (p := ⟨(World.heap W0).size, 1, none⟩) (by simp)).trans (by simp)
                               refine hK.out _ _ ?hSb1x11 (fun hHeld => ?restb1x11)
                               case hSb1x11 => ((try dsimp only); first | with_reducible exact hHeld | with_reducible exact HSK.out _ (ext_drew _) | with_reducible exact HSK.out _ (ext_trans (ext_alloc _ _) (ext_drew _)) | with_reducible exact HSK.out _ (ext_trans (ext_drew _) (ext_alloc _ _)) | with_reducible exact HSK.out _ hx5 | with_reducible exact HSK.out _ (ext_trans hx5 (ext_alloc _ _)))
                               case restb1x11 =>
                                 clear hK K
                                 try simp only [Act.put, List.setIfInBounds_toArray, List.set_cons_zero, List.set_cons_succ]
                                 refine wpAnyH_ready (rs := [4]) (by kernel_rfl) (by simp) ?_
                                 refine AllReadyH.cons (o := _) rfl (fun K hK => ?stb1x12) ?moreb1x12
                                 case stb1x12 =>
                                   go_simp
                                   refine hK.out _ _ ?hSb1x12 (fun hHeld => ?restb1x12)
                                   case hSb1x12 => ((try dsimp only); first | with_reducible exact hHeld | with_reducible exact HSK.out _ (ext_drew _) | with_reducible exact HSK.out _ (ext_trans (ext_alloc _ _) (ext_drew _)) | with_reducible exact HSK.out _ (ext_trans (ext_drew _) (ext_alloc _ _)) | with_reducible exact HSK.out _ hx5 | with_reducible exact HSK.out _ (ext_trans hx5 (ext_alloc _ _)))
                                   case restb1x12 =>
                                     clear hK K
                                     try simp only [Act.put, List.setIfInBounds_toArray, List.set_cons_zero, List.set_cons_succ]
                                     refine wpAnyH_ready (rs := [8]) (by kernel_rfl) (by simp) ?_
                                     refine AllReadyH.cons (o := _) rfl (fun K hK => ?stb1x13) ?moreb1x13
                                     case stb1x13 =>
                                       go_simp
                                       refine hK.out _ _ ?hSb1x13 (fun hHeld => ?restb1x13)
                                       case hSb1x13 => ((try dsimp only); first | with_reducible exact hHeld | with_reducible exact HSK.out _ (ext_drew _) | with_reducible exact HSK.out _ (ext_trans (ext_alloc _ _) (ext_drew _)) | with_reducible exact HSK.out _ (ext_trans (ext_drew _) (ext_alloc _ _)) | with_reducible exact HSK.out _ hx5 | with_reducible exact HSK.out _ (ext_trans hx5 (ext_alloc _ _)))
                                       case restb1x13 =>
                                         clear hK K
                                         try simp only [Act.put, List.setIfInBounds_toArray, List.set_cons_zero, List.set_cons_succ]
                                         refine wpAnyH_ready (rs := [9]) (by kernel_rfl) (by simp) ?_
                                         refine AllReadyH.cons (o := _) rfl (fun K hK => ?stb1x14) ?moreb1x14
                                         case stb1x14 =>
                                           go_simp
                                           refine hK.out _ _ ?hSb1x14 (fun hHeld => ?restb1x14)
                                           case hSb1x14 => ((try dsimp only); first | with_reducible exact hHeld | with_reducible exact HSK.out _ (ext_drew _) | with_reducible exact HSK.out _ (ext_trans (ext_alloc _ _) (ext_drew _)) | with_reducible exact HSK.out _ (ext_trans (ext_drew _) (ext_alloc _ _)) | with_reducible exact HSK.out _ hx5 | with_reducible exact HSK.out _ (ext_trans hx5 (ext_alloc _ _)))
                                           case restb1x14 =>
                                             clear hK K
                                             try simp only [Act.put, List.setIfInBounds_toArray, List.set_cons_zero, List.set_cons_succ]
                                             refine wpAnyH_done (by kernel_rfl) ?_ _
                                             go_wp2
                                             go_meet
                                             exact ⟨rfl, by first | exact hx5 | (exact hHeld.2.2)⟩
                                         case moreb1x14 =>
                                          exact AllReadyH.nil
                                     case moreb1x13 =>
                                      exact AllReadyH.nil
                                 case moreb1x12 =>
                                  exact AllReadyH.nil
                             case moreb1x11 =>
                              exact AllReadyH.nil
                        case moreb1x6 =>
                         refine AllReadyH.cons (o := _) rfl (fun K hK => ?stb1x15) ?moreb1x15
                         case stb1x15 =>
                           go_simp
                           go_at_call 41
                           (with_reducible refine (HT1.out _ ?_).mono ?_)
                           ((first | with_reducible exact ext_drew _ | with_reducible exact ext_trans (ext_alloc _ _) (ext_drew _) | with_reducible exact ext_trans (ext_drew _) (ext_alloc _ _)))
                           rintro e w5 ⟨rfl, hb5⟩
                           have hx5 : Below (World.heap W0).size W0 w5 := first_belowI hb5 (by (first | with_reducible exact ext_drew _ | with_reducible exact ext_trans (ext_alloc _ _) (ext_drew _) | with_reducible exact ext_trans (ext_drew _) (ext_alloc _ _)))
                           have hlc : World.cell? w5 ⟨(World.heap W0).size, 1, none⟩ = some (.string ⟨#[110, 101]⟩) := (hb5.cell (p := ⟨(World.heap W0).size, 1, none⟩) (by simp)).trans (by simp)
                           refine hK.out _ _ ?hSb1x15 (fun hHeld => ?restb1x15)
                           case hSb1x15 => ((try dsimp only); first | with_reducible exact hHeld | with_reducible exact HSK.out _ (ext_drew _) | with_reducible exact HSK.out _ (ext_trans (ext_alloc _ _) (ext_drew _)) | with_reducible exact HSK.out _ (ext_trans (ext_drew _) (ext_alloc _ _)) | with_reducible exact HSK.out _ hx5 | with_reducible exact HSK.out _ (ext_trans hx5 (ext_alloc _ _)))
                           case restb1x15 =>
                             clear hK K
                             try simp only [Act.put, List.setIfInBounds_toArray, List.set_cons_zero, List.set_cons_succ]
                             refine wpAnyH_ready (rs := [3]) (by kernel_rfl) (by simp) ?_
                             refine AllReadyH.cons (o := _) rfl (fun K hK => ?stb1x16) ?moreb1x16
                             case stb1x16 =>
                               go_simp
                               refine hK.out _ _ ?hSb1x16 (fun hHeld => ?restb1x16)
                               case hSb1x16 => ((try dsimp only); first | with_reducible exact hHeld | with_reducible exact HSK.out _ (ext_drew _) | with_reducible exact HSK.out _ (ext_trans (ext_alloc _ _) (ext_drew _)) | with_reducible exact HSK.out _ (ext_trans (ext_drew _) (ext_alloc _ _)) | with_reducible exact HSK.out _ hx5 | with_reducible exact HSK.out _ (ext_trans hx5 (ext_alloc _ _)))
                               case restb1x16 =>
                                 clear hK K
                                 try simp only [Act.put, List.setIfInBounds_toArray, List.set_cons_zero, List.set_cons_succ]
                                 refine wpAnyH_ready (rs := [4]) (by kernel_rfl) (by simp) ?_
                                 refine AllReadyH.cons (o := _) rfl (fun K hK => ?stb1x17) ?moreb1x17
                                 case stb1x17 =>
                                   go_simp
                                   refine hK.out _ _ ?hSb1x17 (fun hHeld => ?restb1x17)
                                   case hSb1x17 => ((try dsimp only); first | with_reducible exact hHeld | with_reducible exact HSK.out _ (ext_drew _) | with_reducible exact HSK.out _ (ext_trans (ext_alloc _ _) (ext_drew _)) | with_reducible exact HSK.out _ (ext_trans (ext_drew _) (ext_alloc _ _)) | with_reducible exact HSK.out _ hx5 | with_reducible exact HSK.out _ (ext_trans hx5 (ext_alloc _ _)))
                                   case restb1x17 =>
                                     clear hK K
                                     try simp only [Act.put, List.setIfInBounds_toArray, List.set_cons_zero, List.set_cons_succ]
                                     refine wpAnyH_ready (rs := [8]) (by kernel_rfl) (by simp) ?_
                                     refine AllReadyH.cons (o := _) rfl (fun K hK => ?stb1x18) ?moreb1x18
                                     case stb1x18 =>
                                       go_simp
                                       refine hK.out _ _ ?hSb1x18 (fun hHeld => ?restb1x18)
                                       case hSb1x18 => ((try dsimp only); first | with_reducible exact hHeld | with_reducible exact HSK.out _ (ext_drew _) | with_reducible exact HSK.out _ (ext_trans (ext_alloc _ _) (ext_drew _)) | with_reducible exact HSK.out _ (ext_trans (ext_drew _) (ext_alloc _ _)) | with_reducible exact HSK.out _ hx5 | with_reducible exact HSK.out _ (ext_trans hx5 (ext_alloc _ _)))
                                       case restb1x18 =>
                                         clear hK K
                                         try simp only [Act.put, List.setIfInBounds_toArray, List.set_cons_zero, List.set_cons_succ]
                                         refine wpAnyH_ready (rs := [9]) (by kernel_rfl) (by simp) ?_
                                         refine AllReadyH.cons (o := _) rfl (fun K hK => ?stb1x19) ?moreb1x19
                                         case stb1x19 =>
                                           go_simp
                                           refine hK.out _ _ ?hSb1x19 (fun hHeld => ?restb1x19)
                                           case hSb1x19 => ((try dsimp only); first | with_reducible exact hHeld | with_reducible exact HSK.out _ (ext_drew _) | with_reducible exact HSK.out _ (ext_trans (ext_alloc _ _) (ext_drew _)) | with_reducible exact HSK.out _ (ext_trans (ext_drew _) (ext_alloc _ _)) | with_reducible exact HSK.out _ hx5 | with_reducible exact HSK.out _ (ext_trans hx5 (ext_alloc _ _)))
                                           case restb1x19 =>
                                             clear hK K
                                             try simp only [Act.put, List.setIfInBounds_toArray, List.set_cons_zero, List.set_cons_succ]
                                             refine wpAnyH_done (by kernel_rfl) ?_ _
                                             go_wp2
                                             go_meet
                                             exact ⟨rfl, by first | exact hx5 | (exact hHeld.2.2)⟩
                                         case moreb1x19 =>
                                          exact AllReadyH.nil
                                     case moreb1x18 =>
                                      exact AllReadyH.nil
                                 case moreb1x17 =>
                                  exact AllReadyH.nil
                             case moreb1x16 =>
                              exact AllReadyH.nil
                         case moreb1x15 =>
                          exact AllReadyH.nil
                    case moreb1x5 =>
                     refine AllReadyH.cons (o := _) rfl (fun K hK => ?stb1x20) ?moreb1x20
                     case stb1x20 =>
                       go_simp
                       go_at_call 41
                       (with_reducible refine (HT1.out _ ?_).mono ?_)
                       ((first | with_reducible exact ext_drew _ | with_reducible exact ext_trans (ext_alloc _ _) (ext_drew _) | with_reducible exact ext_trans (ext_drew _) (ext_alloc _ _)))
                       rintro e w5 ⟨rfl, hb5⟩
                       have hx5 : Below (World.heap W0).size W0 w5 := first_belowI hb5 (by (first | with_reducible exact ext_drew _ | with_reducible exact ext_trans (ext_alloc _ _) (ext_drew _) | with_reducible exact ext_trans (ext_drew _) (ext_alloc _ _)))
                       refine hK.out _ _ ?hSb1x20 (fun hHeld => ?restb1x20)
                       case hSb1x20 => ((try dsimp only); first | with_reducible exact hHeld | with_reducible exact HSK.out _ (ext_drew _) | with_reducible exact HSK.out _ (ext_trans (ext_alloc _ _) (ext_drew _)) | with_reducible exact HSK.out _ (ext_trans (ext_drew _) (ext_alloc _ _)) | with_reducible exact HSK.out _ hx5 | with_reducible exact HSK.out _ (ext_trans hx5 (ext_alloc _ _)))
                       case restb1x20 =>
                         clear hK K
                         try simp only [Act.put, List.setIfInBounds_toArray, List.set_cons_zero, List.set_cons_succ]
                         refine wpAnyH_ready (rs := [0]) (by kernel_rfl) (by simp) ?_
                         refine AllReadyH.cons (o := _) rfl (fun K hK => ?stb1x21) ?moreb1x21
                         case stb1x21 =>
                           go_simp
                           refine hK.out _ _ ?hSb1x21 (fun hHeld => ?restb1x21)
                           case hSb1x21 => ((try dsimp only); first | with_reducible exact hHeld | with_reducible exact HSK.out _ (ext_drew _) | with_reducible exact HSK.out _ (ext_trans (ext_alloc _ _) (ext_drew _)) | with_reducible exact HSK.out _ (ext_trans (ext_drew _) (ext_alloc _ _)) | with_reducible exact HSK.out _ hx5 | with_reducible exact HSK.out _ (ext_trans hx5 (ext_alloc _ _)))
                           case restb1x21 =>
                             clear hK K
                             try simp only [Act.put, List.setIfInBounds_toArray, List.set_cons_zero, List.set_cons_succ]
                             refine wpAnyH_ready (rs := [3]) (by kernel_rfl) (by simp) ?_
                             refine AllReadyH.cons (o := _) rfl (fun K hK => ?stb1x22) ?moreb1x22
                             case stb1x22 =>
                               go_simp
                               refine hK.out _ _ ?hSb1x22 (fun hHeld => ?restb1x22)
                               case hSb1x22 => ((try dsimp only); first | with_reducible exact hHeld | with_reducible exact HSK.out _ (ext_drew _) | with_reducible exact HSK.out _ (ext_trans (ext_alloc _ _) (ext_drew _)) | with_reducible exact HSK.out _ (ext_trans (ext_drew _) (ext_alloc _ _)) | with_reducible exact HSK.out _ hx5 | with_reducible exact HSK.out _ (ext_trans hx5 (ext_alloc _ _)))
                               case restb1x22 =>
                                 clear hK K
                                 try simp only [Act.put, List.setIfInBounds_toArray, List.set_cons_zero, List.set_cons_succ]
                                 refine wpAnyH_ready (rs := [4]) (by kernel_rfl) (by simp) ?_
                                 refine AllReadyH.cons (o := _) rfl (fun K hK => ?stb1x23) ?moreb1x23
                                 case stb1x23 =>
                                   go_simp
                                   refine hK.out _ _ ?hSb1x23 (fun hHeld => ?restb1x23)
                                   case hSb1x23 => ((try dsimp only); first | with_reducible exact hHeld | with_reducible exact HSK.out _ (ext_drew _) | with_reducible exact HSK.out _ (ext_trans (ext_alloc _ _) (ext_drew _)) | with_reducible exact HSK.out _ (ext_trans (ext_drew _) (ext_alloc _ _)) | with_reducible exact HSK.out _ hx5 | with_reducible exact HSK.out _ (ext_trans hx5 (ext_alloc _ _)))
                                   case restb1x23 =>
                                     clear hK K
                                     try simp only [Act.put, List.setIfInBounds_toArray, List.set_cons_zero, List.set_cons_succ]
                                     refine wpAnyH_ready (rs := [8]) (by kernel_rfl) (by simp) ?_
                                     refine AllReadyH.cons (o := _) rfl (fun K hK => ?stb1x24) ?moreb1x24
                                     case stb1x24 =>
                                       go_simp
                                       refine hK.out _ _ ?hSb1x24 (fun hHeld => ?restb1x24)
                                       case hSb1x24 => ((try dsimp only); first | with_reducible exact hHeld | with_reducible exact HSK.out _ (ext_drew _) | with_reducible exact HSK.out _ (ext_trans (ext_alloc _ _) (ext_drew _)) | with_reducible exact HSK.out _ (ext_trans (ext_drew _) (ext_alloc _ _)) | with_reducible exact HSK.out _ hx5 | with_reducible exact HSK.out _ (ext_trans hx5 (ext_alloc _ _)))
                                       case restb1x24 =>
                                         clear hK K
                                         try simp only [Act.put, List.setIfInBounds_toArray, List.set_cons_zero, List.set_cons_succ]
                                         refine wpAnyH_ready (rs := [9]) (by kernel_rfl) (by simp) ?_
                                         refine AllReadyH.cons (o := _) rfl (fun K hK => ?stb1x25) ?moreb1x25
                                         case stb1x25 =>
                                           go_simp
                                           refine hK.out _ _ ?hSb1x25 (fun hHeld => ?restb1x25)
                                           case hSb1x25 => ((try dsimp only); first | with_reducible exact hHeld | with_reducible exact HSK.out _ (ext_drew _) | with_reducible exact HSK.out _ (ext_trans (ext_alloc _ _) (ext_drew _)) | with_reducible exact HSK.out _ (ext_trans (ext_drew _) (ext_alloc _ _)) | with_reducible exact HSK.out _ hx5 | with_reducible exact HSK.out _ (ext_trans hx5 (ext_alloc _ _)))
                                           case restb1x25 =>
                                             clear hK K
                                             try simp only [Act.put, List.setIfInBounds_toArray, List.set_cons_zero, List.set_cons_succ]
                                             refine wpAnyH_done (by kernel_rfl) ?_ _
                                             go_wp2
                                             go_meet
                                             exact ⟨rfl, by first | exact hx5 | (exact hHeld.2.2)⟩
                                         case moreb1x25 =>
                                          exact AllReadyH.nil
                                     case moreb1x24 =>
                                      exact AllReadyH.nil
                                 case moreb1x23 =>
                                  exact AllReadyH.nil
                             case moreb1x22 =>
                              exact AllReadyH.nil
                         case moreb1x21 =>
                          exact AllReadyH.nil
                     case moreb1x20 =>
                      exact AllReadyH.nil
            · have HSK := Lib.hid (fun (w' : World) (hb : Below (World.heap W0).size W0 w') => (show World.cell? w' ⟨wr.heap.size, 0, none⟩ = some (.int .i64 2) ∧ World.cell? w' ⟨wr.heap.size, 1, none⟩ = some (.int .i64 (u : Int)) ∧ Below (World.heap W0).size W0 w' from ⟨(hb.cell (p := ⟨wr.heap.size, 0, none⟩) hyb).trans v0, (hb.cell (p := ⟨wr.heap.size, 1, none⟩) hyb).trans v1, hb⟩))
              refine wp_region_held_drew (S := (fun w' => World.cell? w' ⟨wr.heap.size, 0, none⟩ = some (.int .i64 2) ∧ World.cell? w' ⟨wr.heap.size, 1, none⟩ = some (.int .i64 (u : Int)) ∧ Below (World.heap W0).size W0 w')) (by kernel_rfl) ?hSb2x0 (fun hHeld => ?restb2x0)
              case hSb2x0 => ((try dsimp only); first | with_reducible exact hHeld | with_reducible exact HSK.out _ (ext_drew _) | with_reducible exact HSK.out _ (ext_trans (ext_alloc _ _) (ext_drew _)) | with_reducible exact HSK.out _ (ext_trans (ext_drew _) (ext_alloc _ _)) | with_reducible exact HSK.out _ hx5 | with_reducible exact HSK.out _ (ext_trans hx5 (ext_alloc _ _)))
              case restb2x0 =>
                refine wpAnyH_take (i := 1) (oi := _) (v := ?vb2x1) rfl (by kernel_rfl) (by kernel_rfl) (by kernel_rfl) (fun _ _ _ h => h) (Or.inl ⟨by rfl, ?hyb2x1⟩) (by assumption) ?restb2x1
                case hyb2x1 => ((intro w hSw; (try dsimp only at hSw); go_simp) <;> (with_reducible rfl))
                case restb2x1 =>
                 try simp only [Act.put, List.setIfInBounds_toArray, List.set_cons_zero, List.set_cons_succ]
                 refine wpAnyH_take (i := 2) (oi := _) (v := ?vb2x2) rfl (by kernel_rfl) (by kernel_rfl) (by kernel_rfl) (fun _ _ _ h => h) (Or.inl ⟨by rfl, ?hyb2x2⟩) (by assumption) ?restb2x2
                 case hyb2x2 => ((intro w hSw; (try dsimp only at hSw); go_simp) <;> (with_reducible rfl))
                 case restb2x2 =>
                  try simp only [Act.put, List.setIfInBounds_toArray, List.set_cons_zero, List.set_cons_succ]
                  refine wpAnyH_take (i := 5) (oi := _) (v := ?vb2x3) rfl (by kernel_rfl) (by kernel_rfl) (by kernel_rfl) (fun _ _ _ h => h) (Or.inl ⟨by rfl, ?hyb2x3⟩) (by assumption) ?restb2x3
                  case hyb2x3 => ((intro w hSw; (try dsimp only at hSw); go_simp) <;> (with_reducible rfl))
                  case restb2x3 =>
                   try simp only [Act.put, List.setIfInBounds_toArray, List.set_cons_zero, List.set_cons_succ]
                   refine wpAnyH_take (i := 6) (oi := _) (v := ?vb2x4) rfl (by kernel_rfl) (by kernel_rfl) (by kernel_rfl) (fun _ _ _ h => h) (Or.inl ⟨by rfl, ?hyb2x4⟩) (by assumption) ?restb2x4
                   case hyb2x4 => ((intro w hSw; (try dsimp only at hSw); go_simp) <;> (with_reducible rfl))
                   case restb2x4 =>
                    try simp only [Act.put, List.setIfInBounds_toArray, List.set_cons_zero, List.set_cons_succ]
                    refine wpAnyH_ready (rs := [0, 7]) (by kernel_rfl) (by simp) ?_
                    refine AllReadyH.cons (o := _) rfl (fun K hK => ?stb2x5) ?moreb2x5
                    case stb2x5 =>
                      go_simp
                      refine hK.out _ _ ?hSb2x5 (fun hHeld => ?restb2x5)
                      case hSb2x5 => ((try dsimp only); first | with_reducible exact hHeld | with_reducible exact HSK.out _ (ext_drew _) | with_reducible exact HSK.out _ (ext_trans (ext_alloc _ _) (ext_drew _)) | with_reducible exact HSK.out _ (ext_trans (ext_drew _) (ext_alloc _ _)) | with_reducible exact HSK.out _ hx5 | with_reducible exact HSK.out _ (ext_trans hx5 (ext_alloc _ _)))
                      case restb2x5 =>
                        clear hK K
                        try simp only [Act.put, List.setIfInBounds_toArray, List.set_cons_zero, List.set_cons_succ]
                        refine wpAnyH_ready (rs := [3, 7]) (by kernel_rfl) (by simp) ?_
                        refine AllReadyH.cons (o := _) rfl (fun K hK => ?stb2x6) ?moreb2x6
                        case stb2x6 =>
                          go_simp
                          refine hK.out _ _ ?hSb2x6 (fun hHeld => ?restb2x6)
                          case hSb2x6 => ((try dsimp only); first | with_reducible exact hHeld | with_reducible exact HSK.out _ (ext_drew _) | with_reducible exact HSK.out _ (ext_trans (ext_alloc _ _) (ext_drew _)) | with_reducible exact HSK.out _ (ext_trans (ext_drew _) (ext_alloc _ _)) | with_reducible exact HSK.out _ hx5 | with_reducible exact HSK.out _ (ext_trans hx5 (ext_alloc _ _)))
                          case restb2x6 =>
                            clear hK K
                            try simp only [Act.put, List.setIfInBounds_toArray, List.set_cons_zero, List.set_cons_succ]
                            refine wpAnyH_ready (rs := [4, 7]) (by kernel_rfl) (by simp) ?_
                            refine AllReadyH.cons (o := _) rfl (fun K hK => ?stb2x7) ?moreb2x7
                            case stb2x7 =>
                              go_simp
                              refine hK.out _ _ ?hSb2x7 (fun hHeld => ?restb2x7)
                              case hSb2x7 => ((try dsimp only); first | with_reducible exact hHeld | with_reducible exact HSK.out _ (ext_drew _) | with_reducible exact HSK.out _ (ext_trans (ext_alloc _ _) (ext_drew _)) | with_reducible exact HSK.out _ (ext_trans (ext_drew _) (ext_alloc _ _)) | with_reducible exact HSK.out _ hx5 | with_reducible exact HSK.out _ (ext_trans hx5 (ext_alloc _ _)))
                              case restb2x7 =>
                                clear hK K
                                try simp only [Act.put, List.setIfInBounds_toArray, List.set_cons_zero, List.set_cons_succ]
                                refine wpAnyH_ready (rs := [7]) (by kernel_rfl) (by simp) ?_
                                refine AllReadyH.cons (o := _) rfl (fun K hK => ?stb2x8) ?moreb2x8
                                case stb2x8 =>
                                  go_simp
                                  go_at_call 41
                                  (with_reducible refine (HT1.out _ ?_).mono ?_)
                                  ((first | with_reducible exact ext_drew _ | with_reducible exact ext_trans (ext_alloc _ _) (ext_drew _) | with_reducible exact ext_trans (ext_drew _) (ext_alloc _ _)))
                                  rintro e w5 ⟨rfl, hb5⟩
                                  have hx5 : Below (World.heap W0).size W0 w5 := first_belowI hb5 (by (first | with_reducible exact ext_drew _ | with_reducible exact ext_trans (ext_alloc _ _) (ext_drew _) | with_reducible exact ext_trans (ext_drew _) (ext_alloc _ _)))
                                  have hlc : World.cell? w5 ⟨(World.heap W0).size, 2, none⟩ = some (.string ⟨#[101]⟩) := (hb5.cell (p := ⟨(World.heap W0).size, 2, none⟩) (by simp)).trans (by simp)
                                  refine hK.out _ _ ?hSb2x8 (fun hHeld => ?restb2x8)
                                  case hSb2x8 => ((try dsimp only); first | with_reducible exact hHeld | with_reducible exact HSK.out _ (ext_drew _) | with_reducible exact HSK.out _ (ext_trans (ext_alloc _ _) (ext_drew _)) | with_reducible exact HSK.out _ (ext_trans (ext_drew _) (ext_alloc _ _)) | with_reducible exact HSK.out _ hx5 | with_reducible exact HSK.out _ (ext_trans hx5 (ext_alloc _ _)))
                                  case restb2x8 =>
                                    clear hK K
                                    try simp only [Act.put, List.setIfInBounds_toArray, List.set_cons_zero, List.set_cons_succ]
                                    refine wpAnyH_ready (rs := [8]) (by kernel_rfl) (by simp) ?_
                                    refine AllReadyH.cons (o := _) rfl (fun K hK => ?stb2x9) ?moreb2x9
                                    case stb2x9 =>
                                      go_simp
                                      refine hK.out _ _ ?hSb2x9 (fun hHeld => ?restb2x9)
                                      case hSb2x9 => ((try dsimp only); first | with_reducible exact hHeld | with_reducible exact HSK.out _ (ext_drew _) | with_reducible exact HSK.out _ (ext_trans (ext_alloc _ _) (ext_drew _)) | with_reducible exact HSK.out _ (ext_trans (ext_drew _) (ext_alloc _ _)) | with_reducible exact HSK.out _ hx5 | with_reducible exact HSK.out _ (ext_trans hx5 (ext_alloc _ _)))
                                      case restb2x9 =>
                                        clear hK K
                                        try simp only [Act.put, List.setIfInBounds_toArray, List.set_cons_zero, List.set_cons_succ]
                                        refine wpAnyH_ready (rs := [9]) (by kernel_rfl) (by simp) ?_
                                        refine AllReadyH.cons (o := _) rfl (fun K hK => ?stb2x10) ?moreb2x10
                                        case stb2x10 =>
                                          go_simp
                                          refine hK.out _ _ ?hSb2x10 (fun hHeld => ?restb2x10)
                                          case hSb2x10 => ((try dsimp only); first | with_reducible exact hHeld | with_reducible exact HSK.out _ (ext_drew _) | with_reducible exact HSK.out _ (ext_trans (ext_alloc _ _) (ext_drew _)) | with_reducible exact HSK.out _ (ext_trans (ext_drew _) (ext_alloc _ _)) | with_reducible exact HSK.out _ hx5 | with_reducible exact HSK.out _ (ext_trans hx5 (ext_alloc _ _)))
                                          case restb2x10 =>
                                            clear hK K
                                            try simp only [Act.put, List.setIfInBounds_toArray, List.set_cons_zero, List.set_cons_succ]
                                            refine wpAnyH_done (by kernel_rfl) ?_ _
                                            go_wp2
                                            go_meet
                                            exact ⟨rfl, by first | exact hx5 | (exact hHeld.2.2)⟩
                                        case moreb2x10 =>
                                         exact AllReadyH.nil
                                    case moreb2x9 =>
                                     exact AllReadyH.nil
                                case moreb2x8 =>
                                 exact AllReadyH.nil
                            case moreb2x7 =>
                             refine AllReadyH.cons (o := _) rfl (fun K hK => ?stb2x11) ?moreb2x11
                             case stb2x11 =>
                               go_simp
                               go_at_call 41
                               (with_reducible refine (HT1.out _ ?_).mono ?_)
                               ((first | with_reducible exact ext_drew _ | with_reducible exact ext_trans (ext_alloc _ _) (ext_drew _) | with_reducible exact ext_trans (ext_drew _) (ext_alloc _ _)))
                               rintro e w5 ⟨rfl, hb5⟩
                               have hx5 : Below (World.heap W0).size W0 w5 := first_belowI hb5 (by (first | with_reducible exact ext_drew _ | with_reducible exact ext_trans (ext_alloc _ _) (ext_drew _) | with_reducible exact ext_trans (ext_drew _) (ext_alloc _ _)))
                               have hlc : World.cell? w5 ⟨(World.heap W0).size, 2, none⟩ = some (.string ⟨#[101]⟩) := (hb5.cell (p := ⟨(World.heap W0).size, 2, none⟩) (by simp)).trans (by simp)
                               refine hK.out _ _ ?hSb2x11 (fun hHeld => ?restb2x11)
                               case hSb2x11 => ((try dsimp only); first | with_reducible exact hHeld | with_reducible exact HSK.out _ (ext_drew _) | with_reducible exact HSK.out _ (ext_trans (ext_alloc _ _) (ext_drew _)) | with_reducible exact HSK.out _ (ext_trans (ext_drew _) (ext_alloc _ _)) | with_reducible exact HSK.out _ hx5 | with_reducible exact HSK.out _ (ext_trans hx5 (ext_alloc _ _)))
                               case restb2x11 =>
                                 clear hK K
                                 try simp only [Act.put, List.setIfInBounds_toArray, List.set_cons_zero, List.set_cons_succ]
                                 refine wpAnyH_ready (rs := [4]) (by kernel_rfl) (by simp) ?_
                                 refine AllReadyH.cons (o := _) rfl (fun K hK => ?stb2x12) ?moreb2x12
                                 case stb2x12 =>
                                   go_simp
                                   refine hK.out _ _ ?hSb2x12 (fun hHeld => ?restb2x12)
                                   case hSb2x12 => ((try dsimp only); first | with_reducible exact hHeld | with_reducible exact HSK.out _ (ext_drew _) | with_reducible exact HSK.out _ (ext_trans (ext_alloc _ _) (ext_drew _)) | with_reducible exact HSK.out _ (ext_trans (ext_drew _) (ext_alloc _ _)) | with_reducible exact HSK.out _ hx5 | with_reducible exact HSK.out _ (ext_trans hx5 (ext_alloc _ _)))
                                   case restb2x12 =>
                                     clear hK K
                                     try simp only [Act.put, List.setIfInBounds_toArray, List.set_cons_zero, List.set_cons_succ]
                                     refine wpAnyH_ready (rs := [8]) (by kernel_rfl) (by simp) ?_
                                     refine AllReadyH.cons (o := _) rfl (fun K hK => ?stb2x13) ?moreb2x13
                                     case stb2x13 =>
                                       go_simp
                                       refine hK.out _ _ ?hSb2x13 (fun hHeld => ?restb2x13)
                                       case hSb2x13 => ((try dsimp only); first | with_reducible exact hHeld | with_reducible exact HSK.out _ (ext_drew _) | with_reducible exact HSK.out _ (ext_trans (ext_alloc _ _) (ext_drew _)) | with_reducible exact HSK.out _ (ext_trans (ext_drew _) (ext_alloc _ _)) | with_reducible exact HSK.out _ hx5 | with_reducible exact HSK.out _ (ext_trans hx5 (ext_alloc _ _)))
                                       case restb2x13 =>
                                         clear hK K
                                         try simp only [Act.put, List.setIfInBounds_toArray, List.set_cons_zero, List.set_cons_succ]
                                         refine wpAnyH_ready (rs := [9]) (by kernel_rfl) (by simp) ?_
                                         refine AllReadyH.cons (o := _) rfl (fun K hK => ?stb2x14) ?moreb2x14
                                         case stb2x14 =>
                                           go_simp
                                           refine hK.out _ _ ?hSb2x14 (fun hHeld => ?restb2x14)
                                           case hSb2x14 => ((try dsimp only); first | with_reducible exact hHeld | with_reducible exact HSK.out _ (ext_drew _) | with_reducible exact HSK.out _ (ext_trans (ext_alloc _ _) (ext_drew _)) | with_reducible exact HSK.out _ (ext_trans (ext_drew _) (ext_alloc _ _)) | with_reducible exact HSK.out _ hx5 | with_reducible exact HSK.out _ (ext_trans hx5 (ext_alloc _ _)))
                                           case restb2x14 =>
                                             clear hK K
                                             try simp only [Act.put, List.setIfInBounds_toArray, List.set_cons_zero, List.set_cons_succ]
                                             refine wpAnyH_done (by kernel_rfl) ?_ _
                                             go_wp2
                                             go_meet
                                             exact ⟨rfl, by first | exact hx5 | (exact hHeld.2.2)⟩
                                         case moreb2x14 =>
                                          exact AllReadyH.nil
                                     case moreb2x13 =>
                                      exact AllReadyH.nil
                                 case moreb2x12 =>
                                  exact AllReadyH.nil
                             case moreb2x11 =>
                              exact AllReadyH.nil
                        case moreb2x6 =>
                         refine AllReadyH.cons (o := _) rfl (fun K hK => ?stb2x15) ?moreb2x15
                         case stb2x15 =>
                           go_simp
                           go_at_call 41
                           (with_reducible refine (HT1.out _ ?_).mono ?_)
                           ((first | with_reducible exact ext_drew _ | with_reducible exact ext_trans (ext_alloc _ _) (ext_drew _) | with_reducible exact ext_trans (ext_drew _) (ext_alloc _ _)))
                           rintro e w5 ⟨rfl, hb5⟩
                           have hx5 : Below (World.heap W0).size W0 w5 := first_belowI hb5 (by (first | with_reducible exact ext_drew _ | with_reducible exact ext_trans (ext_alloc _ _) (ext_drew _) | with_reducible exact ext_trans (ext_drew _) (ext_alloc _ _)))
                           have hlc : World.cell? w5 ⟨(World.heap W0).size, 2, none⟩ = some (.string ⟨#[101]⟩) := (hb5.cell (p := ⟨(World.heap W0).size, 2, none⟩) (by simp)).trans (by simp)
                           refine hK.out _ _ ?hSb2x15 (fun hHeld => ?restb2x15)
                           case hSb2x15 => ((try dsimp only); first | with_reducible exact hHeld | with_reducible exact HSK.out _ (ext_drew _) | with_reducible exact HSK.out _ (ext_trans (ext_alloc _ _) (ext_drew _)) | with_reducible exact HSK.out _ (ext_trans (ext_drew _) (ext_alloc _ _)) | with_reducible exact HSK.out _ hx5 | with_reducible exact HSK.out _ (ext_trans hx5 (ext_alloc _ _)))
                           case restb2x15 =>
                             clear hK K
                             try simp only [Act.put, List.setIfInBounds_toArray, List.set_cons_zero, List.set_cons_succ]
                             refine wpAnyH_ready (rs := [3]) (by kernel_rfl) (by simp) ?_
                             refine AllReadyH.cons (o := _) rfl (fun K hK => ?stb2x16) ?moreb2x16
                             case stb2x16 =>
                               go_simp
                               refine hK.out _ _ ?hSb2x16 (fun hHeld => ?restb2x16)
                               case hSb2x16 => ((try dsimp only); first | with_reducible exact hHeld | with_reducible exact HSK.out _ (ext_drew _) | with_reducible exact HSK.out _ (ext_trans (ext_alloc _ _) (ext_drew _)) | with_reducible exact HSK.out _ (ext_trans (ext_drew _) (ext_alloc _ _)) | with_reducible exact HSK.out _ hx5 | with_reducible exact HSK.out _ (ext_trans hx5 (ext_alloc _ _)))
                               case restb2x16 =>
                                 clear hK K
                                 try simp only [Act.put, List.setIfInBounds_toArray, List.set_cons_zero, List.set_cons_succ]
                                 refine wpAnyH_ready (rs := [4]) (by kernel_rfl) (by simp) ?_
                                 refine AllReadyH.cons (o := _) rfl (fun K hK => ?stb2x17) ?moreb2x17
                                 case stb2x17 =>
                                   go_simp
                                   refine hK.out _ _ ?hSb2x17 (fun hHeld => ?restb2x17)
                                   case hSb2x17 => ((try dsimp only); first | with_reducible exact hHeld | with_reducible exact HSK.out _ (ext_drew _) | with_reducible exact HSK.out _ (ext_trans (ext_alloc _ _) (ext_drew _)) | with_reducible exact HSK.out _ (ext_trans (ext_drew _) (ext_alloc _ _)) | with_reducible exact HSK.out _ hx5 | with_reducible exact HSK.out _ (ext_trans hx5 (ext_alloc _ _)))
                                   case restb2x17 =>
                                     clear hK K
                                     try simp only [Act.put, List.setIfInBounds_toArray, List.set_cons_zero, List.set_cons_succ]
                                     refine wpAnyH_ready (rs := [8]) (by kernel_rfl) (by simp) ?_
                                     refine AllReadyH.cons (o := _) rfl (fun K hK => ?stb2x18) ?moreb2x18
                                     case stb2x18 =>
                                       go_simp
                                       refine hK.out _ _ ?hSb2x18 (fun hHeld => ?restb2x18)
                                       case hSb2x18 => ((try dsimp only); first | with_reducible exact hHeld | with_reducible exact HSK.out _ (ext_drew _) | with_reducible exact HSK.out _ (ext_trans (ext_alloc _ _) (ext_drew _)) | with_reducible exact HSK.out _ (ext_trans (ext_drew _) (ext_alloc _ _)) | with_reducible exact HSK.out _ hx5 | with_reducible exact HSK.out _ (ext_trans hx5 (ext_alloc _ _)))
                                       case restb2x18 =>
                                         clear hK K
                                         try simp only [Act.put, List.setIfInBounds_toArray, List.set_cons_zero, List.set_cons_succ]
                                         refine wpAnyH_ready (rs := [9]) (by kernel_rfl) (by simp) ?_
                                         refine AllReadyH.cons (o := _) rfl (fun K hK => ?stb2x19) ?moreb2x19
                                         case stb2x19 =>
                                           go_simp
                                           refine hK.out _ _ ?hSb2x19 (fun hHeld => ?restb2x19)
                                           case hSb2x19 => ((try dsimp only); first | with_reducible exact hHeld | with_reducible exact HSK.out _ (ext_drew _) | with_reducible exact HSK.out _ (ext_trans (ext_alloc _ _) (ext_drew _)) | with_reducible exact HSK.out _ (ext_trans (ext_drew _) (ext_alloc _ _)) | with_reducible exact HSK.out _ hx5 | with_reducible exact HSK.out _ (ext_trans hx5 (ext_alloc _ _)))
                                           case restb2x19 =>
                                             clear hK K
                                             try simp only [Act.put, List.setIfInBounds_toArray, List.set_cons_zero, List.set_cons_succ]
                                             refine wpAnyH_done (by kernel_rfl) ?_ _
                                             go_wp2
                                             go_meet
                                             exact ⟨rfl, by first | exact hx5 | (exact hHeld.2.2)⟩
                                         case moreb2x19 =>
                                          exact AllReadyH.nil
                                     case moreb2x18 =>
                                      exact AllReadyH.nil
                                 case moreb2x17 =>
                                  exact AllReadyH.nil
                             case moreb2x16 =>
                              exact AllReadyH.nil
                         case moreb2x15 =>
                          exact AllReadyH.nil
                    case moreb2x5 =>
                     refine AllReadyH.cons (o := _) rfl (fun K hK => ?stb2x20) ?moreb2x20
                     case stb2x20 =>
                       go_simp
                       go_at_call 41
                       (with_reducible refine (HT1.out _ ?_).mono ?_)
                       ((first | with_reducible exact ext_drew _ | with_reducible exact ext_trans (ext_alloc _ _) (ext_drew _) | with_reducible exact ext_trans (ext_drew _) (ext_alloc _ _)))
                       rintro e w5 ⟨rfl, hb5⟩
                       have hx5 : Below (World.heap W0).size W0 w5 := first_belowI hb5 (by (first | with_reducible exact ext_drew _ | with_reducible exact ext_trans (ext_alloc _ _) (ext_drew _) | with_reducible exact ext_trans (ext_drew _) (ext_alloc _ _)))
                       refine hK.out _ _ ?hSb2x20 (fun hHeld => ?restb2x20)
                       case hSb2x20 => ((try dsimp only); first | with_reducible exact hHeld | with_reducible exact HSK.out _ (ext_drew _) | with_reducible exact HSK.out _ (ext_trans (ext_alloc _ _) (ext_drew _)) | with_reducible exact HSK.out _ (ext_trans (ext_drew _) (ext_alloc _ _)) | with_reducible exact HSK.out _ hx5 | with_reducible exact HSK.out _ (ext_trans hx5 (ext_alloc _ _)))
                       case restb2x20 =>
                         clear hK K
                         try simp only [Act.put, List.setIfInBounds_toArray, List.set_cons_zero, List.set_cons_succ]
                         refine wpAnyH_ready (rs := [0]) (by kernel_rfl) (by simp) ?_
                         refine AllReadyH.cons (o := _) rfl (fun K hK => ?stb2x21) ?moreb2x21
                         case stb2x21 =>
                           go_simp
                           refine hK.out _ _ ?hSb2x21 (fun hHeld => ?restb2x21)
                           case hSb2x21 => ((try dsimp only); first | with_reducible exact hHeld | with_reducible exact HSK.out _ (ext_drew _) | with_reducible exact HSK.out _ (ext_trans (ext_alloc _ _) (ext_drew _)) | with_reducible exact HSK.out _ (ext_trans (ext_drew _) (ext_alloc _ _)) | with_reducible exact HSK.out _ hx5 | with_reducible exact HSK.out _ (ext_trans hx5 (ext_alloc _ _)))
                           case restb2x21 =>
                             clear hK K
                             try simp only [Act.put, List.setIfInBounds_toArray, List.set_cons_zero, List.set_cons_succ]
                             refine wpAnyH_ready (rs := [3]) (by kernel_rfl) (by simp) ?_
                             refine AllReadyH.cons (o := _) rfl (fun K hK => ?stb2x22) ?moreb2x22
                             case stb2x22 =>
                               go_simp
                               refine hK.out _ _ ?hSb2x22 (fun hHeld => ?restb2x22)
                               case hSb2x22 => ((try dsimp only); first | with_reducible exact hHeld | with_reducible exact HSK.out _ (ext_drew _) | with_reducible exact HSK.out _ (ext_trans (ext_alloc _ _) (ext_drew _)) | with_reducible exact HSK.out _ (ext_trans (ext_drew _) (ext_alloc _ _)) | with_reducible exact HSK.out _ hx5 | with_reducible exact HSK.out _ (ext_trans hx5 (ext_alloc _ _)))
                               case restb2x22 =>
                                 clear hK K
                                 try simp only [Act.put, List.setIfInBounds_toArray, List.set_cons_zero, List.set_cons_succ]
                                 refine wpAnyH_ready (rs := [4]) (by kernel_rfl) (by simp) ?_
                                 refine AllReadyH.cons (o := _) rfl (fun K hK => ?stb2x23) ?moreb2x23
                                 case stb2x23 =>
                                   go_simp
                                   refine hK.out _ _ ?hSb2x23 (fun hHeld => ?restb2x23)
                                   case hSb2x23 => ((try dsimp only); first | with_reducible exact hHeld | with_reducible exact HSK.out _ (ext_drew _) | with_reducible exact HSK.out _ (ext_trans (ext_alloc _ _) (ext_drew _)) | with_reducible exact HSK.out _ (ext_trans (ext_drew _) (ext_alloc _ _)) | with_reducible exact HSK.out _ hx5 | with_reducible exact HSK.out _ (ext_trans hx5 (ext_alloc _ _)))
                                   case restb2x23 =>
                                     clear hK K
                                     try simp only [Act.put, List.setIfInBounds_toArray, List.set_cons_zero, List.set_cons_succ]
                                     refine wpAnyH_ready (rs := [8]) (by kernel_rfl) (by simp) ?_
                                     refine AllReadyH.cons (o := _) rfl (fun K hK => ?stb2x24) ?moreb2x24
                                     case stb2x24 =>
                                       go_simp
                                       refine hK.out _ _ ?hSb2x24 (fun hHeld => ?restb2x24)
                                       case hSb2x24 => ((try dsimp only); first | with_reducible exact hHeld | with_reducible exact HSK.out _ (ext_drew _) | with_reducible exact HSK.out _ (ext_trans (ext_alloc _ _) (ext_drew _)) | with_reducible exact HSK.out _ (ext_trans (ext_drew _) (ext_alloc _ _)) | with_reducible exact HSK.out _ hx5 | with_reducible exact HSK.out _ (ext_trans hx5 (ext_alloc _ _)))
                                       case restb2x24 =>
                                         clear hK K
                                         try simp only [Act.put, List.setIfInBounds_toArray, List.set_cons_zero, List.set_cons_succ]
                                         refine wpAnyH_ready (rs := [9]) (by kernel_rfl) (by simp) ?_
                                         refine AllReadyH.cons (o := _) rfl (fun K hK => ?stb2x25) ?moreb2x25
                                         case stb2x25 =>
                                           go_simp
                                           refine hK.out _ _ ?hSb2x25 (fun hHeld => ?restb2x25)
                                           case hSb2x25 => ((try dsimp only); first | with_reducible exact hHeld | with_reducible exact HSK.out _ (ext_drew _) | with_reducible exact HSK.out _ (ext_trans (ext_alloc _ _) (ext_drew _)) | with_reducible exact HSK.out _ (ext_trans (ext_drew _) (ext_alloc _ _)) | with_reducible exact HSK.out _ hx5 | with_reducible exact HSK.out _ (ext_trans hx5 (ext_alloc _ _)))
                                           case restb2x25 =>
                                             clear hK K
                                             try simp only [Act.put, List.setIfInBounds_toArray, List.set_cons_zero, List.set_cons_succ]
                                             refine wpAnyH_done (by kernel_rfl) ?_ _
                                             go_wp2
                                             go_meet
                                             exact ⟨rfl, by first | exact hx5 | (exact hHeld.2.2)⟩
                                         case moreb2x25 =>
                                          exact AllReadyH.nil
                                     case moreb2x24 =>
                                      exact AllReadyH.nil
                                 case moreb2x23 =>
                                  exact AllReadyH.nil
                             case moreb2x22 =>
                              exact AllReadyH.nil
                         case moreb2x21 =>
                          exact AllReadyH.nil
                     case moreb2x20 =>
                      exact AllReadyH.nil
            · have HSK := Lib.hid (fun (w' : World) (hb : Below (World.heap W0).size W0 w') => (show World.cell? w' ⟨wr.heap.size, 0, none⟩ = some (.int .i64 3) ∧ World.cell? w' ⟨wr.heap.size, 1, none⟩ = some (.int .i64 (u : Int)) ∧ Below (World.heap W0).size W0 w' from ⟨(hb.cell (p := ⟨wr.heap.size, 0, none⟩) hyb).trans v0, (hb.cell (p := ⟨wr.heap.size, 1, none⟩) hyb).trans v1, hb⟩))
              refine wp_region_held_drew (S := (fun w' => World.cell? w' ⟨wr.heap.size, 0, none⟩ = some (.int .i64 3) ∧ World.cell? w' ⟨wr.heap.size, 1, none⟩ = some (.int .i64 (u : Int)) ∧ Below (World.heap W0).size W0 w')) (by kernel_rfl) ?hSb3x0 (fun hHeld => ?restb3x0)
              case hSb3x0 => ((try dsimp only); first | with_reducible exact hHeld | with_reducible exact HSK.out _ (ext_drew _) | with_reducible exact HSK.out _ (ext_trans (ext_alloc _ _) (ext_drew _)) | with_reducible exact HSK.out _ (ext_trans (ext_drew _) (ext_alloc _ _)) | with_reducible exact HSK.out _ hx5 | with_reducible exact HSK.out _ (ext_trans hx5 (ext_alloc _ _)))
              case restb3x0 =>
                refine wpAnyH_take (i := 1) (oi := _) (v := ?vb3x1) rfl (by kernel_rfl) (by kernel_rfl) (by kernel_rfl) (fun _ _ _ h => h) (Or.inl ⟨by rfl, ?hyb3x1⟩) (by assumption) ?restb3x1
                case hyb3x1 => ((intro w hSw; (try dsimp only at hSw); go_simp) <;> (with_reducible rfl))
                case restb3x1 =>
                 try simp only [Act.put, List.setIfInBounds_toArray, List.set_cons_zero, List.set_cons_succ]
                 refine wpAnyH_take (i := 2) (oi := _) (v := ?vb3x2) rfl (by kernel_rfl) (by kernel_rfl) (by kernel_rfl) (fun _ _ _ h => h) (Or.inl ⟨by rfl, ?hyb3x2⟩) (by assumption) ?restb3x2
                 case hyb3x2 => ((intro w hSw; (try dsimp only at hSw); go_simp) <;> (with_reducible rfl))
                 case restb3x2 =>
                  try simp only [Act.put, List.setIfInBounds_toArray, List.set_cons_zero, List.set_cons_succ]
                  refine wpAnyH_take (i := 5) (oi := _) (v := ?vb3x3) rfl (by kernel_rfl) (by kernel_rfl) (by kernel_rfl) (fun _ _ _ h => h) (Or.inl ⟨by rfl, ?hyb3x3⟩) (by assumption) ?restb3x3
                  case hyb3x3 => ((intro w hSw; (try dsimp only at hSw); go_simp) <;> (with_reducible rfl))
                  case restb3x3 =>
                   try simp only [Act.put, List.setIfInBounds_toArray, List.set_cons_zero, List.set_cons_succ]
                   refine wpAnyH_take (i := 6) (oi := _) (v := ?vb3x4) rfl (by kernel_rfl) (by kernel_rfl) (by kernel_rfl) (fun _ _ _ h => h) (Or.inl ⟨by rfl, ?hyb3x4⟩) (by assumption) ?restb3x4
                   case hyb3x4 => ((intro w hSw; (try dsimp only at hSw); go_simp) <;> (with_reducible rfl))
                   case restb3x4 =>
                    try simp only [Act.put, List.setIfInBounds_toArray, List.set_cons_zero, List.set_cons_succ]
                    refine wpAnyH_ready (rs := [0, 7]) (by kernel_rfl) (by simp) ?_
                    refine AllReadyH.cons (o := _) rfl (fun K hK => ?stb3x5) ?moreb3x5
                    case stb3x5 =>
                      go_simp
                      refine hK.out _ _ ?hSb3x5 (fun hHeld => ?restb3x5)
                      case hSb3x5 => ((try dsimp only); first | with_reducible exact hHeld | with_reducible exact HSK.out _ (ext_drew _) | with_reducible exact HSK.out _ (ext_trans (ext_alloc _ _) (ext_drew _)) | with_reducible exact HSK.out _ (ext_trans (ext_drew _) (ext_alloc _ _)) | with_reducible exact HSK.out _ hx5 | with_reducible exact HSK.out _ (ext_trans hx5 (ext_alloc _ _)))
                      case restb3x5 =>
                        clear hK K
                        try simp only [Act.put, List.setIfInBounds_toArray, List.set_cons_zero, List.set_cons_succ]
                        refine wpAnyH_ready (rs := [3, 7]) (by kernel_rfl) (by simp) ?_
                        refine AllReadyH.cons (o := _) rfl (fun K hK => ?stb3x6) ?moreb3x6
                        case stb3x6 =>
                          go_simp
                          refine hK.out _ _ ?hSb3x6 (fun hHeld => ?restb3x6)
                          case hSb3x6 => ((try dsimp only); first | with_reducible exact hHeld | with_reducible exact HSK.out _ (ext_drew _) | with_reducible exact HSK.out _ (ext_trans (ext_alloc _ _) (ext_drew _)) | with_reducible exact HSK.out _ (ext_trans (ext_drew _) (ext_alloc _ _)) | with_reducible exact HSK.out _ hx5 | with_reducible exact HSK.out _ (ext_trans hx5 (ext_alloc _ _)))
                          case restb3x6 =>
                            clear hK K
                            try simp only [Act.put, List.setIfInBounds_toArray, List.set_cons_zero, List.set_cons_succ]
                            refine wpAnyH_ready (rs := [4, 7]) (by kernel_rfl) (by simp) ?_
                            refine AllReadyH.cons (o := _) rfl (fun K hK => ?stb3x7) ?moreb3x7
                            case stb3x7 =>
                              go_simp
                              refine hK.out _ _ ?hSb3x7 (fun hHeld => ?restb3x7)
                              case hSb3x7 => ((try dsimp only); first | with_reducible exact hHeld | with_reducible exact HSK.out _ (ext_drew _) | with_reducible exact HSK.out _ (ext_trans (ext_alloc _ _) (ext_drew _)) | with_reducible exact HSK.out _ (ext_trans (ext_drew _) (ext_alloc _ _)) | with_reducible exact HSK.out _ hx5 | with_reducible exact HSK.out _ (ext_trans hx5 (ext_alloc _ _)))
                              case restb3x7 =>
                                clear hK K
                                try simp only [Act.put, List.setIfInBounds_toArray, List.set_cons_zero, List.set_cons_succ]
                                refine wpAnyH_ready (rs := [7]) (by kernel_rfl) (by simp) ?_
                                refine AllReadyH.cons (o := _) rfl (fun K hK => ?stb3x8) ?moreb3x8
                                case stb3x8 =>
                                  go_simp
                                  go_at_call 41
                                  (with_reducible refine (HT1.out _ ?_).mono ?_)
                                  ((first | with_reducible exact ext_drew _ | with_reducible exact ext_trans (ext_alloc _ _) (ext_drew _) | with_reducible exact ext_trans (ext_drew _) (ext_alloc _ _)))
                                  rintro e w5 ⟨rfl, hb5⟩
                                  have hx5 : Below (World.heap W0).size W0 w5 := first_belowI hb5 (by (first | with_reducible exact ext_drew _ | with_reducible exact ext_trans (ext_alloc _ _) (ext_drew _) | with_reducible exact ext_trans (ext_drew _) (ext_alloc _ _)))
                                  have hlc : World.cell? w5 ⟨(World.heap W0).size, 3, none⟩ = some (.string ⟨#[115, 101]⟩) := (hb5.cell (p := ⟨(World.heap W0).size, 3, none⟩) (by simp)).trans (by simp)
                                  refine hK.out _ _ ?hSb3x8 (fun hHeld => ?restb3x8)
                                  case hSb3x8 => ((try dsimp only); first | with_reducible exact hHeld | with_reducible exact HSK.out _ (ext_drew _) | with_reducible exact HSK.out _ (ext_trans (ext_alloc _ _) (ext_drew _)) | with_reducible exact HSK.out _ (ext_trans (ext_drew _) (ext_alloc _ _)) | with_reducible exact HSK.out _ hx5 | with_reducible exact HSK.out _ (ext_trans hx5 (ext_alloc _ _)))
                                  case restb3x8 =>
                                    clear hK K
                                    try simp only [Act.put, List.setIfInBounds_toArray, List.set_cons_zero, List.set_cons_succ]
                                    refine wpAnyH_ready (rs := [8]) (by kernel_rfl) (by simp) ?_
                                    refine AllReadyH.cons (o := _) rfl (fun K hK => ?stb3x9) ?moreb3x9
                                    case stb3x9 =>
                                      go_simp
                                      refine hK.out _ _ ?hSb3x9 (fun hHeld => ?restb3x9)
                                      case hSb3x9 => ((try dsimp only); first | with_reducible exact hHeld | with_reducible exact HSK.out _ (ext_drew _) | with_reducible exact HSK.out _ (ext_trans (ext_alloc _ _) (ext_drew _)) | with_reducible exact HSK.out _ (ext_trans (ext_drew _) (ext_alloc _ _)) | with_reducible exact HSK.out _ hx5 | with_reducible exact HSK.out _ (ext_trans hx5 (ext_alloc _ _)))
                                      case restb3x9 =>
                                        clear hK K
                                        try simp only [Act.put, List.setIfInBounds_toArray, List.set_cons_zero, List.set_cons_succ]
                                        refine wpAnyH_ready (rs := [9]) (by kernel_rfl) (by simp) ?_
                                        refine AllReadyH.cons (o := _) rfl (fun K hK => ?stb3x10) ?moreb3x10
                                        case stb3x10 =>
                                          go_simp
                                          refine hK.out _ _ ?hSb3x10 (fun hHeld => ?restb3x10)
                                          case hSb3x10 => ((try dsimp only); first | with_reducible exact hHeld | with_reducible exact HSK.out _ (ext_drew _) | with_reducible exact HSK.out _ (ext_trans (ext_alloc _ _) (ext_drew _)) | with_reducible exact HSK.out _ (ext_trans (ext_drew _) (ext_alloc _ _)) | with_reducible exact HSK.out _ hx5 | with_reducible exact HSK.out _ (ext_trans hx5 (ext_alloc _ _)))
                                          case restb3x10 =>
                                            clear hK K
                                            try simp only [Act.put, List.setIfInBounds_toArray, List.set_cons_zero, List.set_cons_succ]
                                            refine wpAnyH_done (by kernel_rfl) ?_ _
                                            go_wp2
                                            go_meet
                                            exact ⟨rfl, by first | exact hx5 | (exact hHeld.2.2)⟩
                                        case moreb3x10 =>
                                         exact AllReadyH.nil
                                    case moreb3x9 =>
                                     exact AllReadyH.nil
                                case moreb3x8 =>
                                 exact AllReadyH.nil
                            case moreb3x7 =>
                             refine AllReadyH.cons (o := _) rfl (fun K hK => ?stb3x11) ?moreb3x11
                             case stb3x11 =>
                               go_simp
                               go_at_call 41
                               (with_reducible refine (HT1.out _ ?_).mono ?_)
                               ((first | with_reducible exact ext_drew _ | with_reducible exact ext_trans (ext_alloc _ _) (ext_drew _) | with_reducible exact ext_trans (ext_drew _) (ext_alloc _ _)))
                               rintro e w5 ⟨rfl, hb5⟩
                               have hx5 : Below (World.heap W0).size W0 w5 := first_belowI hb5 (by (first | with_reducible exact ext_drew _ | with_reducible exact ext_trans (ext_alloc _ _) (ext_drew _) | with_reducible exact ext_trans (ext_drew _) (ext_alloc _ _)))
                               have hlc : World.cell? w5 ⟨(World.heap W0).size, 3, none⟩ = some (.string ⟨#[115, 101]⟩) := (hb5.cell (p := ⟨(World.heap W0).size, 3, none⟩) (by simp)).trans (by simp)
                               refine hK.out _ _ ?hSb3x11 (fun hHeld => ?restb3x11)
                               case hSb3x11 => ((try dsimp only); first | with_reducible exact hHeld | with_reducible exact HSK.out _ (ext_drew _) | with_reducible exact HSK.out _ (ext_trans (ext_alloc _ _) (ext_drew _)) | with_reducible exact HSK.out _ (ext_trans (ext_drew _) (ext_alloc _ _)) | with_reducible exact HSK.out _ hx5 | with_reducible exact HSK.out _ (ext_trans hx5 (ext_alloc _ _)))
                               case restb3x11 =>
                                 clear hK K
                                 try simp only [Act.put, List.setIfInBounds_toArray, List.set_cons_zero, List.set_cons_succ]
                                 refine wpAnyH_ready (rs := [4]) (by kernel_rfl) (by simp) ?_
                                 refine AllReadyH.cons (o := _) rfl (fun K hK => ?stb3x12) ?moreb3x12
                                 case stb3x12 =>
                                   go_simp
                                   refine hK.out _ _ ?hSb3x12 (fun hHeld => ?restb3x12)
                                   case hSb3x12 => ((try dsimp only); first | with_reducible exact hHeld | with_reducible exact HSK.out _ (ext_drew _) | with_reducible exact HSK.out _ (ext_trans (ext_alloc _ _) (ext_drew _)) | with_reducible exact HSK.out _ (ext_trans (ext_drew _) (ext_alloc _ _)) | with_reducible exact HSK.out _ hx5 | with_reducible exact HSK.out _ (ext_trans hx5 (ext_alloc _ _)))
                                   case restb3x12 =>
                                     clear hK K
                                     try simp only [Act.put, List.setIfInBounds_toArray, List.set_cons_zero, List.set_cons_succ]
                                     refine wpAnyH_ready (rs := [8]) (by kernel_rfl) (by simp) ?_
                                     refine AllReadyH.cons (o := _) rfl (fun K hK => ?stb3x13) ?moreb3x13
                                     case stb3x13 =>
                                       go_simp
                                       refine hK.out _ _ ?hSb3x13 (fun hHeld => ?restb3x13)
                                       case hSb3x13 => ((try dsimp only); first | with_reducible exact hHeld | with_reducible exact HSK.out _ (ext_drew _) | with_reducible exact HSK.out _ (ext_trans (ext_alloc _ _) (ext_drew _)) | with_reducible exact HSK.out _ (ext_trans (ext_drew _) (ext_alloc _ _)) | with_reducible exact HSK.out _ hx5 | with_reducible exact HSK.out _ (ext_trans hx5 (ext_alloc _ _)))
                                       case restb3x13 =>
                                         clear hK K
                                         try simp only [Act.put, List.setIfInBounds_toArray, List.set_cons_zero, List.set_cons_succ]
                                         refine wpAnyH_ready (rs := [9]) (by kernel_rfl) (by simp) ?_
                                         refine AllReadyH.cons (o := _) rfl (fun K hK => ?stb3x14) ?moreb3x14
                                         case stb3x14 =>
                                           go_simp
                                           refine hK.out _ _ ?hSb3x14 (fun hHeld => ?restb3x14)
                                           case hSb3x14 => ((try dsimp only); first | with_reducible exact hHeld | with_reducible exact HSK.out _ (ext_drew _) | with_reducible exact HSK.out _ (ext_trans (ext_alloc _ _) (ext_drew _)) | with_reducible exact HSK.out _ (ext_trans (ext_drew _) (ext_alloc _ _)) | with_reducible exact HSK.out _ hx5 | with_reducible exact HSK.out _ (ext_trans hx5 (ext_alloc _ _)))
                                           case restb3x14 =>
                                             clear hK K
                                             try simp only [Act.put, List.setIfInBounds_toArray, List.set_cons_zero, List.set_cons_succ]
                                             refine wpAnyH_done (by kernel_rfl) ?_ _
                                             go_wp2
                                             go_meet
                                             exact ⟨rfl, by first | exact hx5 | (exact hHeld.2.2)⟩
                                         case moreb3x14 =>
                                          exact AllReadyH.nil
                                     case moreb3x13 =>
                                      exact AllReadyH.nil
                                 case moreb3x12 =>
                                  exact AllReadyH.nil
                             case moreb3x11 =>
                              exact AllReadyH.nil
                        case moreb3x6 =>
                         refine AllReadyH.cons (o := _) rfl (fun K hK => ?stb3x15) ?moreb3x15
                         case stb3x15 =>
                           go_simp
                           go_at_call 41
                           (with_reducible refine (HT1.out _ ?_).mono ?_)
                           ((first | with_reducible exact ext_drew _ | with_reducible exact ext_trans (ext_alloc _ _) (ext_drew _) | with_reducible exact ext_trans (ext_drew _) (ext_alloc _ _)))
                           rintro e w5 ⟨rfl, hb5⟩
                           have hx5 : Below (World.heap W0).size W0 w5 := first_belowI hb5 (by (first | with_reducible exact ext_drew _ | with_reducible exact ext_trans (ext_alloc _ _) (ext_drew _) | with_reducible exact ext_trans (ext_drew _) (ext_alloc _ _)))
                           have hlc : World.cell? w5 ⟨(World.heap W0).size, 3, none⟩ = some (.string ⟨#[115, 101]⟩) := (hb5.cell (p := ⟨(World.heap W0).size, 3, none⟩) (by simp)).trans (by simp)
                           refine hK.out _ _ ?hSb3x15 (fun hHeld => ?restb3x15)
                           case hSb3x15 => ((try dsimp only); first | with_reducible exact hHeld | with_reducible exact HSK.out _ (ext_drew _) | with_reducible exact HSK.out _ (ext_trans (ext_alloc _ _) (ext_drew _)) | with_reducible exact HSK.out _ (ext_trans (ext_drew _) (ext_alloc _ _)) | with_reducible exact HSK.out _ hx5 | with_reducible exact HSK.out _ (ext_trans hx5 (ext_alloc _ _)))
                           case restb3x15 =>
                             clear hK K
                             try simp only [Act.put, List.setIfInBounds_toArray, List.set_cons_zero, List.set_cons_succ]
                             refine wpAnyH_ready (rs := [3]) (by kernel_rfl) (by simp) ?_
                             refine AllReadyH.cons (o := _) rfl (fun K hK => ?stb3x16) ?moreb3x16
                             case stb3x16 =>
                               go_simp
                               refine hK.out _ _ ?hSb3x16 (fun hHeld => ?restb3x16)
                               case hSb3x16 => ((try dsimp only); first | with_reducible exact hHeld | with_reducible exact HSK.out _ (ext_drew _) | with_reducible exact HSK.out _ (ext_trans (ext_alloc _ _) (ext_drew _)) | with_reducible exact HSK.out _ (ext_trans (ext_drew _) (ext_alloc _ _)) | with_reducible exact HSK.out _ hx5 | with_reducible exact HSK.out _ (ext_trans hx5 (ext_alloc _ _)))
                               case restb3x16 =>
                                 clear hK K
                                 try simp only [Act.put, List.setIfInBounds_toArray, List.set_cons_zero, List.set_cons_succ]
                                 refine wpAnyH_ready (rs := [4]) (by kernel_rfl) (by simp) ?_
                                 refine AllReadyH.cons (o := _) rfl (fun K hK => ?stb3x17) ?moreb3x17
                                 case stb3x17 =>
                                   go_simp
                                   refine hK.out _ _ ?hSb3x17 (fun hHeld => ?restb3x17)
                                   case hSb3x17 => ((try dsimp only); first | with_reducible exact hHeld | with_reducible exact HSK.out _ (ext_drew _) | with_reducible exact HSK.out _ (ext_trans (ext_alloc _ _) (ext_drew _)) | with_reducible exact HSK.out _ (ext_trans (ext_drew _) (ext_alloc _ _)) | with_reducible exact HSK.out _ hx5 | with_reducible exact HSK.out _ (ext_trans hx5 (ext_alloc _ _)))
                                   case restb3x17 =>
                                     clear hK K
                                     try simp only [Act.put, List.setIfInBounds_toArray, List.set_cons_zero, List.set_cons_succ]
                                     refine wpAnyH_ready (rs := [8]) (by kernel_rfl) (by simp) ?_
                                     refine AllReadyH.cons (o := _) rfl (fun K hK => ?stb3x18) ?moreb3x18
                                     case stb3x18 =>
                                       go_simp
                                       refine hK.out _ _ ?hSb3x18 (fun hHeld => ?restb3x18)
                                       case hSb3x18 => ((try dsimp only); first | with_reducible exact hHeld | with_reducible exact HSK.out _ (ext_drew _) | with_reducible exact HSK.out _ (ext_trans (ext_alloc _ _) (ext_drew _)) | with_reducible exact HSK.out _ (ext_trans (ext_drew _) (ext_alloc _ _)) | with_reducible exact HSK.out _ hx5 | with_reducible exact HSK.out _ (ext_trans hx5 (ext_alloc _ _)))
                                       case restb3x18 =>
                                         clear hK K
                                         try simp only [Act.put, List.setIfInBounds_toArray, List.set_cons_zero, List.set_cons_succ]
                                         refine wpAnyH_ready (rs := [9]) (by kernel_rfl) (by simp) ?_
                                         refine AllReadyH.cons (o := _) rfl (fun K hK => ?stb3x19) ?moreb3x19
                                         case stb3x19 =>
                                           go_simp
                                           refine hK.out _ _ ?hSb3x19 (fun hHeld => ?restb3x19)
                                           case hSb3x19 => ((try dsimp only); first | with_reducible exact hHeld | with_reducible exact HSK.out _ (ext_drew _) | with_reducible exact HSK.out _ (ext_trans (ext_alloc _ _) (ext_drew _)) | with_reducible exact HSK.out _ (ext_trans (ext_drew _) (ext_alloc _ _)) | with_reducible exact HSK.out _ hx5 | with_reducible exact HSK.out _ (ext_trans hx5 (ext_alloc _ _)))
                                           case restb3x19 =>
                                             clear hK K
                                             try simp only [Act.put, List.setIfInBounds_toArray, List.set_cons_zero, List.set_cons_succ]
                                             refine wpAnyH_done (by kernel_rfl) ?_ _
                                             go_wp2
                                             go_meet
                                             exact ⟨rfl, by first | exact hx5 | (exact hHeld.2.2)⟩
                                         case moreb3x19 =>
                                          exact AllReadyH.nil
                                     case moreb3x18 =>
                                      exact AllReadyH.nil
                                 case moreb3x17 =>
                                  exact AllReadyH.nil
                             case moreb3x16 =>
                              exact AllReadyH.nil
                         case moreb3x15 =>
                          exact AllReadyH.nil
                    case moreb3x5 =>
                     refine AllReadyH.cons (o := _) rfl (fun K hK => ?stb3x20) ?moreb3x20
                     case stb3x20 =>
                       go_simp
                       go_at_call 41
                       (with_reducible refine (HT1.out _ ?_).mono ?_)
                       ((first | with_reducible exact ext_drew _ | with_reducible exact ext_trans (ext_alloc _ _) (ext_drew _) | with_reducible exact ext_trans (ext_drew _) (ext_alloc _ _)))
                       rintro e w5 ⟨rfl, hb5⟩
                       have hx5 : Below (World.heap W0).size W0 w5 := first_belowI hb5 (by (first | with_reducible exact ext_drew _ | with_reducible exact ext_trans (ext_alloc _ _) (ext_drew _) | with_reducible exact ext_trans (ext_drew _) (ext_alloc _ _)))
                       refine hK.out _ _ ?hSb3x20 (fun hHeld => ?restb3x20)
                       case hSb3x20 => ((try dsimp only); first | with_reducible exact hHeld | with_reducible exact HSK.out _ (ext_drew _) | with_reducible exact HSK.out _ (ext_trans (ext_alloc _ _) (ext_drew _)) | with_reducible exact HSK.out _ (ext_trans (ext_drew _) (ext_alloc _ _)) | with_reducible exact HSK.out _ hx5 | with_reducible exact HSK.out _ (ext_trans hx5 (ext_alloc _ _)))
                       case restb3x20 =>
                         clear hK K
                         try simp only [Act.put, List.setIfInBounds_toArray, List.set_cons_zero, List.set_cons_succ]
                         refine wpAnyH_ready (rs := [0]) (by kernel_rfl) (by simp) ?_
                         refine AllReadyH.cons (o := _) rfl (fun K hK => ?stb3x21) ?moreb3x21
                         case stb3x21 =>
                           go_simp
                           refine hK.out _ _ ?hSb3x21 (fun hHeld => ?restb3x21)
                           case hSb3x21 => ((try dsimp only); first | with_reducible exact hHeld | with_reducible exact HSK.out _ (ext_drew _) | with_reducible exact HSK.out _ (ext_trans (ext_alloc _ _) (ext_drew _)) | with_reducible exact HSK.out _ (ext_trans (ext_drew _) (ext_alloc _ _)) | with_reducible exact HSK.out _ hx5 | with_reducible exact HSK.out _ (ext_trans hx5 (ext_alloc _ _)))
                           case restb3x21 =>
                             clear hK K
                             try simp only [Act.put, List.setIfInBounds_toArray, List.set_cons_zero, List.set_cons_succ]
                             refine wpAnyH_ready (rs := [3]) (by kernel_rfl) (by simp) ?_
                             refine AllReadyH.cons (o := _) rfl (fun K hK => ?stb3x22) ?moreb3x22
                             case stb3x22 =>
                               go_simp
                               refine hK.out _ _ ?hSb3x22 (fun hHeld => ?restb3x22)
                               case hSb3x22 => ((try dsimp only); first | with_reducible exact hHeld | with_reducible exact HSK.out _ (ext_drew _) | with_reducible exact HSK.out _ (ext_trans (ext_alloc _ _) (ext_drew _)) | with_reducible exact HSK.out _ (ext_trans (ext_drew _) (ext_alloc _ _)) | with_reducible exact HSK.out _ hx5 | with_reducible exact HSK.out _ (ext_trans hx5 (ext_alloc _ _)))
                               case restb3x22 =>
                                 clear hK K
                                 try simp only [Act.put, List.setIfInBounds_toArray, List.set_cons_zero, List.set_cons_succ]
                                 refine wpAnyH_ready (rs := [4]) (by kernel_rfl) (by simp) ?_
                                 refine AllReadyH.cons (o := _) rfl (fun K hK => ?stb3x23) ?moreb3x23
                                 case stb3x23 =>
                                   go_simp
                                   refine hK.out _ _ ?hSb3x23 (fun hHeld => ?restb3x23)
                                   case hSb3x23 => ((try dsimp only); first | with_reducible exact hHeld | with_reducible exact HSK.out _ (ext_drew _) | with_reducible exact HSK.out _ (ext_trans (ext_alloc _ _) (ext_drew _)) | with_reducible exact HSK.out _ (ext_trans (ext_drew _) (ext_alloc _ _)) | with_reducible exact HSK.out _ hx5 | with_reducible exact HSK.out _ (ext_trans hx5 (ext_alloc _ _)))
                                   case restb3x23 =>
                                     clear hK K
                                     try simp only [Act.put, List.setIfInBounds_toArray, List.set_cons_zero, List.set_cons_succ]
                                     refine wpAnyH_ready (rs := [8]) (by kernel_rfl) (by simp) ?_
                                     refine AllReadyH.cons (o := _) rfl (fun K hK => ?stb3x24) ?moreb3x24
                                     case stb3x24 =>
                                       go_simp
                                       refine hK.out _ _ ?hSb3x24 (fun hHeld => ?restb3x24)
                                       case hSb3x24 => ((try dsimp only); first | with_reducible exact hHeld | with_reducible exact HSK.out _ (ext_drew _) | with_reducible exact HSK.out _ (ext_trans (ext_alloc _ _) (ext_drew _)) | with_reducible exact HSK.out _ (ext_trans (ext_drew _) (ext_alloc _ _)) | with_reducible exact HSK.out _ hx5 | with_reducible exact HSK.out _ (ext_trans hx5 (ext_alloc _ _)))
                                       case restb3x24 =>
                                         clear hK K
                                         try simp only [Act.put, List.setIfInBounds_toArray, List.set_cons_zero, List.set_cons_succ]
                                         refine wpAnyH_ready (rs := [9]) (by kernel_rfl) (by simp) ?_
                                         refine AllReadyH.cons (o := _) rfl (fun K hK => ?stb3x25) ?moreb3x25
                                         case stb3x25 =>
                                           go_simp
                                           refine hK.out _ _ ?hSb3x25 (fun hHeld => ?restb3x25)
                                           case hSb3x25 => ((try dsimp only); first | with_reducible exact hHeld | with_reducible exact HSK.out _ (ext_drew _) | with_reducible exact HSK.out _ (ext_trans (ext_alloc _ _) (ext_drew _)) | with_reducible exact HSK.out _ (ext_trans (ext_drew _) (ext_alloc _ _)) | with_reducible exact HSK.out _ hx5 | with_reducible exact HSK.out _ (ext_trans hx5 (ext_alloc _ _)))
                                           case restb3x25 =>
                                             clear hK K
                                             try simp only [Act.put, List.setIfInBounds_toArray, List.set_cons_zero, List.set_cons_succ]
                                             refine wpAnyH_done (by kernel_rfl) ?_ _
                                             go_wp2
                                             go_meet
                                             exact ⟨rfl, by first | exact hx5 | (exact hHeld.2.2)⟩
                                         case moreb3x25 =>
                                          exact AllReadyH.nil
                                     case moreb3x24 =>
                                      exact AllReadyH.nil
                                 case moreb3x23 =>
                                  exact AllReadyH.nil
                             case moreb3x22 =>
                              exact AllReadyH.nil
                         case moreb3x21 =>
                          exact AllReadyH.nil
                     case moreb3x20 =>
                      exact AllReadyH.nil
            · have HSK := Lib.hid (fun (w' : World) (hb : Below (World.heap W0).size W0 w') => (show World.cell? w' ⟨wr.heap.size, 0, none⟩ = some (.int .i64 4) ∧ World.cell? w' ⟨wr.heap.size, 1, none⟩ = some (.int .i64 (u : Int)) ∧ Below (World.heap W0).size W0 w' from ⟨(hb.cell (p := ⟨wr.heap.size, 0, none⟩) hyb).trans v0, (hb.cell (p := ⟨wr.heap.size, 1, none⟩) hyb).trans v1, hb⟩))
              refine wp_region_held_drew (S := (fun w' => World.cell? w' ⟨wr.heap.size, 0, none⟩ = some (.int .i64 4) ∧ World.cell? w' ⟨wr.heap.size, 1, none⟩ = some (.int .i64 (u : Int)) ∧ Below (World.heap W0).size W0 w')) (by kernel_rfl) ?hSb4x0 (fun hHeld => ?restb4x0)
              case hSb4x0 => ((try dsimp only); first | with_reducible exact hHeld | with_reducible exact HSK.out _ (ext_drew _) | with_reducible exact HSK.out _ (ext_trans (ext_alloc _ _) (ext_drew _)) | with_reducible exact HSK.out _ (ext_trans (ext_drew _) (ext_alloc _ _)) | with_reducible exact HSK.out _ hx5 | with_reducible exact HSK.out _ (ext_trans hx5 (ext_alloc _ _)))
              case restb4x0 =>
                refine wpAnyH_take (i := 1) (oi := _) (v := ?vb4x1) rfl (by kernel_rfl) (by kernel_rfl) (by kernel_rfl) (fun _ _ _ h => h) (Or.inl ⟨by rfl, ?hyb4x1⟩) (by assumption) ?restb4x1
                case hyb4x1 => ((intro w hSw; (try dsimp only at hSw); go_simp) <;> (with_reducible rfl))
                case restb4x1 =>
                 try simp only [Act.put, List.setIfInBounds_toArray, List.set_cons_zero, List.set_cons_succ]
                 refine wpAnyH_take (i := 2) (oi := _) (v := ?vb4x2) rfl (by kernel_rfl) (by kernel_rfl) (by kernel_rfl) (fun _ _ _ h => h) (Or.inl ⟨by rfl, ?hyb4x2⟩) (by assumption) ?restb4x2
                 case hyb4x2 => ((intro w hSw; (try dsimp only at hSw); go_simp) <;> (with_reducible rfl))
                 case restb4x2 =>
                  try simp only [Act.put, List.setIfInBounds_toArray, List.set_cons_zero, List.set_cons_succ]
                  refine wpAnyH_take (i := 5) (oi := _) (v := ?vb4x3) rfl (by kernel_rfl) (by kernel_rfl) (by kernel_rfl) (fun _ _ _ h => h) (Or.inl ⟨by rfl, ?hyb4x3⟩) (by assumption) ?restb4x3
                  case hyb4x3 => ((intro w hSw; (try dsimp only at hSw); go_simp) <;> (with_reducible rfl))
                  case restb4x3 =>
                   try simp only [Act.put, List.setIfInBounds_toArray, List.set_cons_zero, List.set_cons_succ]
                   refine wpAnyH_take (i := 6) (oi := _) (v := ?vb4x4) rfl (by kernel_rfl) (by kernel_rfl) (by kernel_rfl) (fun _ _ _ h => h) (Or.inl ⟨by rfl, ?hyb4x4⟩) (by assumption) ?restb4x4
                   case hyb4x4 => ((intro w hSw; (try dsimp only at hSw); go_simp) <;> (with_reducible rfl))
                   case restb4x4 =>
                    try simp only [Act.put, List.setIfInBounds_toArray, List.set_cons_zero, List.set_cons_succ]
                    refine wpAnyH_ready (rs := [0, 7]) (by kernel_rfl) (by simp) ?_
                    refine AllReadyH.cons (o := _) rfl (fun K hK => ?stb4x5) ?moreb4x5
                    case stb4x5 =>
                      go_simp
                      refine hK.out _ _ ?hSb4x5 (fun hHeld => ?restb4x5)
                      case hSb4x5 => ((try dsimp only); first | with_reducible exact hHeld | with_reducible exact HSK.out _ (ext_drew _) | with_reducible exact HSK.out _ (ext_trans (ext_alloc _ _) (ext_drew _)) | with_reducible exact HSK.out _ (ext_trans (ext_drew _) (ext_alloc _ _)) | with_reducible exact HSK.out _ hx5 | with_reducible exact HSK.out _ (ext_trans hx5 (ext_alloc _ _)))
                      case restb4x5 =>
                        clear hK K
                        try simp only [Act.put, List.setIfInBounds_toArray, List.set_cons_zero, List.set_cons_succ]
                        refine wpAnyH_ready (rs := [3, 7]) (by kernel_rfl) (by simp) ?_
                        refine AllReadyH.cons (o := _) rfl (fun K hK => ?stb4x6) ?moreb4x6
                        case stb4x6 =>
                          go_simp
                          refine hK.out _ _ ?hSb4x6 (fun hHeld => ?restb4x6)
                          case hSb4x6 => ((try dsimp only); first | with_reducible exact hHeld | with_reducible exact HSK.out _ (ext_drew _) | with_reducible exact HSK.out _ (ext_trans (ext_alloc _ _) (ext_drew _)) | with_reducible exact HSK.out _ (ext_trans (ext_drew _) (ext_alloc _ _)) | with_reducible exact HSK.out _ hx5 | with_reducible exact HSK.out _ (ext_trans hx5 (ext_alloc _ _)))
                          case restb4x6 =>
                            clear hK K
                            try simp only [Act.put, List.setIfInBounds_toArray, List.set_cons_zero, List.set_cons_succ]
                            refine wpAnyH_ready (rs := [4, 7]) (by kernel_rfl) (by simp) ?_
                            refine AllReadyH.cons (o := _) rfl (fun K hK => ?stb4x7) ?moreb4x7
                            case stb4x7 =>
                              go_simp
                              refine hK.out _ _ ?hSb4x7 (fun hHeld => ?restb4x7)
                              case hSb4x7 => ((try dsimp only); first | with_reducible exact hHeld | with_reducible exact HSK.out _ (ext_drew _) | with_reducible exact HSK.out _ (ext_trans (ext_alloc _ _) (ext_drew _)) | with_reducible exact HSK.out _ (ext_trans (ext_drew _) (ext_alloc _ _)) | with_reducible exact HSK.out _ hx5 | with_reducible exact HSK.out _ (ext_trans hx5 (ext_alloc _ _)))
                              case restb4x7 =>
                                clear hK K
                                try simp only [Act.put, List.setIfInBounds_toArray, List.set_cons_zero, List.set_cons_succ]
                                refine wpAnyH_ready (rs := [7]) (by kernel_rfl) (by simp) ?_
                                refine AllReadyH.cons (o := _) rfl (fun K hK => ?stb4x8) ?moreb4x8
                                case stb4x8 =>
                                  go_simp
                                  go_at_call 41
                                  (with_reducible refine (HT1.out _ ?_).mono ?_)
                                  ((first | with_reducible exact ext_drew _ | with_reducible exact ext_trans (ext_alloc _ _) (ext_drew _) | with_reducible exact ext_trans (ext_drew _) (ext_alloc _ _)))
                                  rintro e w5 ⟨rfl, hb5⟩
                                  have hx5 : Below (World.heap W0).size W0 w5 := first_belowI hb5 (by (first | with_reducible exact ext_drew _ | with_reducible exact ext_trans (ext_alloc _ _) (ext_drew _) | with_reducible exact ext_trans (ext_drew _) (ext_alloc _ _)))
                                  have hlc : World.cell? w5 ⟨(World.heap W0).size, 4, none⟩ = some (.string ⟨#[115]⟩) := (hb5.cell (p := ⟨(World.heap W0).size, 4, none⟩) (by simp)).trans (by simp)
                                  refine hK.out _ _ ?hSb4x8 (fun hHeld => ?restb4x8)
                                  case hSb4x8 => ((try dsimp only); first | with_reducible exact hHeld | with_reducible exact HSK.out _ (ext_drew _) | with_reducible exact HSK.out _ (ext_trans (ext_alloc _ _) (ext_drew _)) | with_reducible exact HSK.out _ (ext_trans (ext_drew _) (ext_alloc _ _)) | with_reducible exact HSK.out _ hx5 | with_reducible exact HSK.out _ (ext_trans hx5 (ext_alloc _ _)))
                                  case restb4x8 =>
                                    clear hK K
                                    try simp only [Act.put, List.setIfInBounds_toArray, List.set_cons_zero, List.set_cons_succ]
                                    refine wpAnyH_ready (rs := [8]) (by kernel_rfl) (by simp) ?_
                                    refine AllReadyH.cons (o := _) rfl (fun K hK => ?stb4x9) ?moreb4x9
                                    case stb4x9 =>
                                      go_simp
                                      refine hK.out _ _ ?hSb4x9 (fun hHeld => ?restb4x9)
                                      case hSb4x9 => ((try dsimp only); first | with_reducible exact hHeld | with_reducible exact HSK.out _ (ext_drew _) | with_reducible exact HSK.out _ (ext_trans (ext_alloc _ _) (ext_drew _)) | with_reducible exact HSK.out _ (ext_trans (ext_drew _) (ext_alloc _ _)) | with_reducible exact HSK.out _ hx5 | with_reducible exact HSK.out _ (ext_trans hx5 (ext_alloc _ _)))
                                      case restb4x9 =>
                                        clear hK K
                                        try simp only [Act.put, List.setIfInBounds_toArray, List.set_cons_zero, List.set_cons_succ]
                                        refine wpAnyH_ready (rs := [9]) (by kernel_rfl) (by simp) ?_
                                        refine AllReadyH.cons (o := _) rfl (fun K hK => ?stb4x10) ?moreb4x10
                                        case stb4x10 =>
                                          go_simp
                                          refine hK.out _ _ ?hSb4x10 (fun hHeld => ?restb4x10)
                                          case hSb4x10 => ((try dsimp only); first | with_reducible exact hHeld | with_reducible exact HSK.out _ (ext_drew _) | with_reducible exact HSK.out _ (ext_trans (ext_alloc _ _) (ext_drew _)) | with_reducible exact HSK.out _ (ext_trans (ext_drew _) (ext_alloc _ _)) | with_reducible exact HSK.out _ hx5 | with_reducible exact HSK.out _ (ext_trans hx5 (ext_alloc _ _)))
                                          case restb4x10 =>
                                            clear hK K
                                            try simp only [Act.put, List.setIfInBounds_toArray, List.set_cons_zero, List.set_cons_succ]
                                            refine wpAnyH_done (by kernel_rfl) ?_ _
                                            go_wp2
                                            go_meet
                                            exact ⟨rfl, by first | exact hx5 | (exact hHeld.2.2)⟩
                                        case moreb4x10 =>
                                         exact AllReadyH.nil
                                    case moreb4x9 =>
                                     exact AllReadyH.nil
                                case moreb4x8 =>
                                 exact AllReadyH.nil
                            case moreb4x7 =>
                             refine AllReadyH.cons (o := _) rfl (fun K hK => ?stb4x11) ?moreb4x11
                             case stb4x11 =>
                               go_simp
                               go_at_call 41
                               (with_reducible refine (HT1.out _ ?_).mono ?_)
                               ((first | with_reducible exact ext_drew _ | with_reducible exact ext_trans (ext_alloc _ _) (ext_drew _) | with_reducible exact ext_trans (ext_drew _) (ext_alloc _ _)))
                               rintro e w5 ⟨rfl, hb5⟩
                               have hx5 : Below (World.heap W0).size W0 w5 := first_belowI hb5 (by (first | with_reducible exact ext_drew _ | with_reducible exact ext_trans (ext_alloc _ _) (ext_drew _) | with_reducible exact ext_trans (ext_drew _) (ext_alloc _ _)))
                               have hlc : World.cell? w5 ⟨(World.heap W0).size, 4, none⟩ = some (.string ⟨#[115]⟩) := (hb5.cell (p := ⟨(World.heap W0).size, 4, none⟩) (by simp)).trans (by simp)
                               refine hK.out _ _ ?hSb4x11 (fun hHeld => ?restb4x11)
                               case hSb4x11 => ((try dsimp only); first | with_reducible exact hHeld | with_reducible exact HSK.out _ (ext_drew _) | with_reducible exact HSK.out _ (ext_trans (ext_alloc _ _) (ext_drew _)) | with_reducible exact HSK.out _ (ext_trans (ext_drew _) (ext_alloc _ _)) | with_reducible exact HSK.out _ hx5 | with_reducible exact HSK.out _ (ext_trans hx5 (ext_alloc _ _)))
                               case restb4x11 =>
                                 clear hK K
                                 try simp only [Act.put, List.setIfInBounds_toArray, List.set_cons_zero, List.set_cons_succ]
                                 refine wpAnyH_ready (rs := [4]) (by kernel_rfl) (by simp) ?_
                                 refine AllReadyH.cons (o := _) rfl (fun K hK => ?stb4x12) ?moreb4x12
                                 case stb4x12 =>
                                   go_simp
                                   refine hK.out _ _ ?hSb4x12 (fun hHeld => ?restb4x12)
                                   case hSb4x12 => ((try dsimp only); first | with_reducible exact hHeld | with_reducible exact HSK.out _ (ext_drew _) | with_reducible exact HSK.out _ (ext_trans (ext_alloc _ _) (ext_drew _)) | with_reducible exact HSK.out _ (ext_trans (ext_drew _) (ext_alloc _ _)) | with_reducible exact HSK.out _ hx5 | with_reducible exact HSK.out _ (ext_trans hx5 (ext_alloc _ _)))
                                   case restb4x12 =>
                                     clear hK K
                                     try simp only [Act.put, List.setIfInBounds_toArray, List.set_cons_zero, List.set_cons_succ]
                                     refine wpAnyH_ready (rs := [8]) (by kernel_rfl) (by simp) ?_
                                     refine AllReadyH.cons (o := _) rfl (fun K hK => ?stb4x13) ?moreb4x13
                                     case stb4x13 =>
                                       go_simp
                                       refine hK.out _ _ ?hSb4x13 (fun hHeld => ?restb4x13)
                                       case hSb4x13 => ((try dsimp only); first | with_reducible exact hHeld | with_reducible exact HSK.out _ (ext_drew _) | with_reducible exact HSK.out _ (ext_trans (ext_alloc _ _) (ext_drew _)) | with_reducible exact HSK.out _ (ext_trans (ext_drew _) (ext_alloc _ _)) | with_reducible exact HSK.out _ hx5 | with_reducible exact HSK.out _ (ext_trans hx5 (ext_alloc _ _)))
                                       case restb4x13 =>
                                         clear hK K
                                         try simp only [Act.put, List.setIfInBounds_toArray, List.set_cons_zero, List.set_cons_succ]
                                         refine wpAnyH_ready (rs := [9]) (by kernel_rfl) (by simp) ?_
                                         refine AllReadyH.cons (o := _) rfl (fun K hK => ?stb4x14) ?moreb4x14
                                         case stb4x14 =>
                                           go_simp
                                           refine hK.out _ _ ?hSb4x14 (fun hHeld => ?restb4x14)
                                           case hSb4x14 => ((try dsimp only); first | with_reducible exact hHeld | with_reducible exact HSK.out _ (ext_drew _) | with_reducible exact HSK.out _ (ext_trans (ext_alloc _ _) (ext_drew _)) | with_reducible exact HSK.out _ (ext_trans (ext_drew _) (ext_alloc _ _)) | with_reducible exact HSK.out _ hx5 | with_reducible exact HSK.out _ (ext_trans hx5 (ext_alloc _ _)))
                                           case restb4x14 =>
                                             clear hK K
                                             try simp only [Act.put, List.setIfInBounds_toArray, List.set_cons_zero, List.set_cons_succ]
                                             refine wpAnyH_done (by kernel_rfl) ?_ _
                                             go_wp2
                                             go_meet
                                             exact ⟨rfl, by first | exact hx5 | (exact hHeld.2.2)⟩
                                         case moreb4x14 =>
                                          exact AllReadyH.nil
                                     case moreb4x13 =>
                                      exact AllReadyH.nil
                                 case moreb4x12 =>
                                  exact AllReadyH.nil
                             case moreb4x11 =>
                              exact AllReadyH.nil
                        case moreb4x6 =>
                         refine AllReadyH.cons (o := _) rfl (fun K hK => ?stb4x15) ?moreb4x15
                         case stb4x15 =>
                           go_simp
                           go_at_call 41
                           (with_reducible refine (HT1.out _ ?_).mono ?_)
                           ((first | with_reducible exact ext_drew _ | with_reducible exact ext_trans (ext_alloc _ _) (ext_drew _) | with_reducible exact ext_trans (ext_drew _) (ext_alloc _ _)))
                           rintro e w5 ⟨rfl, hb5⟩
                           have hx5 : Below (World.heap W0).size W0 w5 := first_belowI hb5 (by (first | with_reducible exact ext_drew _ | with_reducible exact ext_trans (ext_alloc _ _) (ext_drew _) | with_reducible exact ext_trans (ext_drew _) (ext_alloc _ _)))
                           have hlc : World.cell? w5 ⟨(World.heap W0).size, 4, none⟩ = some (.string ⟨#[115]⟩) := (hb5.cell (p := ⟨(World.heap W0).size, 4, none⟩) (by simp)).trans (by simp)
                           refine hK.out _ _ ?hSb4x15 (fun hHeld => ?restb4x15)
                           case hSb4x15 => ((try dsimp only); first | with_reducible exact hHeld | with_reducible exact HSK.out _ (ext_drew _) | with_reducible exact HSK.out _ (ext_trans (ext_alloc _ _) (ext_drew _)) | with_reducible exact HSK.out _ (ext_trans (ext_drew _) (ext_alloc _ _)) | with_reducible exact HSK.out _ hx5 | with_reducible exact HSK.out _ (ext_trans hx5 (ext_alloc _ _)))
                           case restb4x15 =>
                             clear hK K
                             try simp only [Act.put, List.setIfInBounds_toArray, List.set_cons_zero, List.set_cons_succ]
                             refine wpAnyH_ready (rs := [3]) (by kernel_rfl) (by simp) ?_
                             refine AllReadyH.cons (o := _) rfl (fun K hK => ?stb4x16) ?moreb4x16
                             case stb4x16 =>
                               go_simp
                               refine hK.out _ _ ?hSb4x16 (fun hHeld => ?restb4x16)
                               case hSb4x16 => ((try dsimp only); first | with_reducible exact hHeld | with_reducible exact HSK.out _ (ext_drew _) | with_reducible exact HSK.out _ (ext_trans (ext_alloc _ _) (ext_drew _)) | with_reducible exact HSK.out _ (ext_trans (ext_drew _) (ext_alloc _ _)) | with_reducible exact HSK.out _ hx5 | with_reducible exact HSK.out _ (ext_trans hx5 (ext_alloc _ _)))
                               case restb4x16 =>
                                 clear hK K
                                 try simp only [Act.put, List.setIfInBounds_toArray, List.set_cons_zero, List.set_cons_succ]
                                 refine wpAnyH_ready (rs := [4]) (by kernel_rfl) (by simp) ?_
                                 refine AllReadyH.cons (o := _) rfl (fun K hK => ?stb4x17) ?moreb4x17
                                 case stb4x17 =>
                                   go_simp
                                   refine hK.out _ _ ?hSb4x17 (fun hHeld => ?restb4x17)
                                   case hSb4x17 => ((try dsimp only); first | with_reducible exact hHeld | with_reducible exact HSK.out _ (ext_drew _) | with_reducible exact HSK.out _ (ext_trans (ext_alloc _ _) (ext_drew _)) | with_reducible exact HSK.out _ (ext_trans (ext_drew _) (ext_alloc _ _)) | with_reducible exact HSK.out _ hx5 | with_reducible exact HSK.out _ (ext_trans hx5 (ext_alloc _ _)))
                                   case restb4x17 =>
                                     clear hK K
                                     try simp only [Act.put, List.setIfInBounds_toArray, List.set_cons_zero, List.set_cons_succ]
                                     refine wpAnyH_ready (rs := [8]) (by kernel_rfl) (by simp) ?_
                                     refine AllReadyH.cons (o := _) rfl (fun K hK => ?stb4x18) ?moreb4x18
                                     case stb4x18 =>
                                       go_simp
                                       refine hK.out _ _ ?hSb4x18 (fun hHeld => ?restb4x18)
                                       case hSb4x18 => ((try dsimp only); first | with_reducible exact hHeld | with_reducible exact HSK.out _ (ext_drew _) | with_reducible exact HSK.out _ (ext_trans (ext_alloc _ _) (ext_drew _)) | with_reducible exact HSK.out _ (ext_trans (ext_drew _) (ext_alloc _ _)) | with_reducible exact HSK.out _ hx5 | with_reducible exact HSK.out _ (ext_trans hx5 (ext_alloc _ _)))
                                       case restb4x18 =>
                                         clear hK K
                                         try simp only [Act.put, List.setIfInBounds_toArray, List.set_cons_zero, List.set_cons_succ]
                                         refine wpAnyH_ready (rs := [9]) (by kernel_rfl) (by simp) ?_
                                         refine AllReadyH.cons (o := _) rfl (fun K hK => ?stb4x19) ?moreb4x19
                                         case stb4x19 =>
                                           go_simp
                                           refine hK.out _ _ ?hSb4x19 (fun hHeld => ?restb4x19)
                                           case hSb4x19 => ((try dsimp only); first | with_reducible exact hHeld | with_reducible exact HSK.out _ (ext_drew _) | with_reducible exact HSK.out _ (ext_trans (ext_alloc _ _) (ext_drew _)) | with_reducible exact HSK.out _ (ext_trans (ext_drew _) (ext_alloc _ _)) | with_reducible exact HSK.out _ hx5 | with_reducible exact HSK.out _ (ext_trans hx5 (ext_alloc _ _)))
                                           case restb4x19 =>
                                             clear hK K
                                             try simp only [Act.put, List.setIfInBounds_toArray, List.set_cons_zero, List.set_cons_succ]
                                             refine wpAnyH_done (by kernel_rfl) ?_ _
                                             go_wp2
                                             go_meet
                                             exact ⟨rfl, by first | exact hx5 | (exact hHeld.2.2)⟩
                                         case moreb4x19 =>
                                          exact AllReadyH.nil
                                     case moreb4x18 =>
                                      exact AllReadyH.nil
                                 case moreb4x17 =>
                                  exact AllReadyH.nil
                             case moreb4x16 =>
                              exact AllReadyH.nil
                         case moreb4x15 =>
                          exact AllReadyH.nil
                    case moreb4x5 =>
                     refine AllReadyH.cons (o := _) rfl (fun K hK => ?stb4x20) ?moreb4x20
                     case stb4x20 =>
                       go_simp
                       go_at_call 41
                       (with_reducible refine (HT1.out _ ?_).mono ?_)
                       ((first | with_reducible exact ext_drew _ | with_reducible exact ext_trans (ext_alloc _ _) (ext_drew _) | with_reducible exact ext_trans (ext_drew _) (ext_alloc _ _)))
                       rintro e w5 ⟨rfl, hb5⟩
                       have hx5 : Below (World.heap W0).size W0 w5 := first_belowI hb5 (by (first | with_reducible exact ext_drew _ | with_reducible exact ext_trans (ext_alloc _ _) (ext_drew _) | with_reducible exact ext_trans (ext_drew _) (ext_alloc _ _)))
                       refine hK.out _ _ ?hSb4x20 (fun hHeld => ?restb4x20)
                       case hSb4x20 => ((try dsimp only); first | with_reducible exact hHeld | with_reducible exact HSK.out _ (ext_drew _) | with_reducible exact HSK.out _ (ext_trans (ext_alloc _ _) (ext_drew _)) | with_reducible exact HSK.out _ (ext_trans (ext_drew _) (ext_alloc _ _)) | with_reducible exact HSK.out _ hx5 | with_reducible exact HSK.out _ (ext_trans hx5 (ext_alloc _ _)))
                       case restb4x20 =>
                         clear hK K
                         try simp only [Act.put, List.setIfInBounds_toArray, List.set_cons_zero, List.set_cons_succ]
                         refine wpAnyH_ready (rs := [0]) (by kernel_rfl) (by simp) ?_
                         refine AllReadyH.cons (o := _) rfl (fun K hK => ?stb4x21) ?moreb4x21
                         case stb4x21 =>
                           go_simp
                           refine hK.out _ _ ?hSb4x21 (fun hHeld => ?restb4x21)
                           case hSb4x21 => ((try dsimp only); first | with_reducible exact hHeld | with_reducible exact HSK.out _ (ext_drew _) | with_reducible exact HSK.out _ (ext_trans (ext_alloc _ _) (ext_drew _)) | with_reducible exact HSK.out _ (ext_trans (ext_drew _) (ext_alloc _ _)) | with_reducible exact HSK.out _ hx5 | with_reducible exact HSK.out _ (ext_trans hx5 (ext_alloc _ _)))
                           case restb4x21 =>
                             clear hK K
                             try simp only [Act.put, List.setIfInBounds_toArray, List.set_cons_zero, List.set_cons_succ]
                             refine wpAnyH_ready (rs := [3]) (by kernel_rfl) (by simp) ?_
                             refine AllReadyH.cons (o := _) rfl (fun K hK => ?stb4x22) ?moreb4x22
                             case stb4x22 =>
                               go_simp
                               refine hK.out _ _ ?hSb4x22 (fun hHeld => ?restb4x22)
                               case hSb4x22 => ((try dsimp only); first | with_reducible exact hHeld | with_reducible exact HSK.out _ (ext_drew _) | with_reducible exact HSK.out _ (ext_trans (ext_alloc _ _) (ext_drew _)) | with_reducible exact HSK.out _ (ext_trans (ext_drew _) (ext_alloc _ _)) | with_reducible exact HSK.out _ hx5 | with_reducible exact HSK.out _ (ext_trans hx5 (ext_alloc _ _)))
                               case restb4x22 =>
                                 clear hK K
                                 try simp only [Act.put, List.setIfInBounds_toArray, List.set_cons_zero, List.set_cons_succ]
                                 refine wpAnyH_ready (rs := [4]) (by kernel_rfl) (by simp) ?_
                                 refine AllReadyH.cons (o := _) rfl (fun K hK => ?stb4x23) ?moreb4x23
                                 case stb4x23 =>
                                   go_simp
                                   refine hK.out _ _ ?hSb4x23 (fun hHeld => ?restb4x23)
                                   case hSb4x23 => ((try dsimp only); first | with_reducible exact hHeld | with_reducible exact HSK.out _ (ext_drew _) | with_reducible exact HSK.out _ (ext_trans (ext_alloc _ _) (ext_drew _)) | with_reducible exact HSK.out _ (ext_trans (ext_drew _) (ext_alloc _ _)) | with_reducible exact HSK.out _ hx5 | with_reducible exact HSK.out _ (ext_trans hx5 (ext_alloc _ _)))
                                   case restb4x23 =>
                                     clear hK K
                                     try simp only [Act.put, List.setIfInBounds_toArray, List.set_cons_zero, List.set_cons_succ]
                                     refine wpAnyH_ready (rs := [8]) (by kernel_rfl) (by simp) ?_
                                     refine AllReadyH.cons (o := _) rfl (fun K hK => ?stb4x24) ?moreb4x24
                                     case stb4x24 =>
                                       go_simp
                                       refine hK.out _ _ ?hSb4x24 (fun hHeld => ?restb4x24)
                                       case hSb4x24 => ((try dsimp only); first | with_reducible exact hHeld | with_reducible exact HSK.out _ (ext_drew _) | with_reducible exact HSK.out _ (ext_trans (ext_alloc _ _) (ext_drew _)) | with_reducible exact HSK.out _ (ext_trans (ext_drew _) (ext_alloc _ _)) | with_reducible exact HSK.out _ hx5 | with_reducible exact HSK.out _ (ext_trans hx5 (ext_alloc _ _)))
                                       case restb4x24 =>
                                         clear hK K
                                         try simp only [Act.put, List.setIfInBounds_toArray, List.set_cons_zero, List.set_cons_succ]
                                         refine wpAnyH_ready (rs := [9]) (by kernel_rfl) (by simp) ?_
                                         refine AllReadyH.cons (o := _) rfl (fun K hK => ?stb4x25) ?moreb4x25
                                         case stb4x25 =>
                                           go_simp
                                           refine hK.out _ _ ?hSb4x25 (fun hHeld => ?restb4x25)
                                           case hSb4x25 => ((try dsimp only); first | with_reducible exact hHeld | with_reducible exact HSK.out _ (ext_drew _) | with_reducible exact HSK.out _ (ext_trans (ext_alloc _ _) (ext_drew _)) | with_reducible exact HSK.out _ (ext_trans (ext_drew _) (ext_alloc _ _)) | with_reducible exact HSK.out _ hx5 | with_reducible exact HSK.out _ (ext_trans hx5 (ext_alloc _ _)))
                                           case restb4x25 =>
                                             clear hK K
                                             try simp only [Act.put, List.setIfInBounds_toArray, List.set_cons_zero, List.set_cons_succ]
                                             refine wpAnyH_done (by kernel_rfl) ?_ _
                                             go_wp2
                                             go_meet
                                             exact ⟨rfl, by first | exact hx5 | (exact hHeld.2.2)⟩
                                         case moreb4x25 =>
                                          exact AllReadyH.nil
                                     case moreb4x24 =>
                                      exact AllReadyH.nil
                                 case moreb4x23 =>
                                  exact AllReadyH.nil
                             case moreb4x22 =>
                              exact AllReadyH.nil
                         case moreb4x21 =>
                          exact AllReadyH.nil
                     case moreb4x20 =>
                      exact AllReadyH.nil
            · have HSK := Lib.hid (fun (w' : World) (hb : Below (World.heap W0).size W0 w') => (show World.cell? w' ⟨wr.heap.size, 0, none⟩ = some (.int .i64 5) ∧ World.cell? w' ⟨wr.heap.size, 1, none⟩ = some (.int .i64 (u : Int)) ∧ Below (World.heap W0).size W0 w' from ⟨(hb.cell (p := ⟨wr.heap.size, 0, none⟩) hyb).trans v0, (hb.cell (p := ⟨wr.heap.size, 1, none⟩) hyb).trans v1, hb⟩))
              refine wp_region_held_drew (S := (fun w' => World.cell? w' ⟨wr.heap.size, 0, none⟩ = some (.int .i64 5) ∧ World.cell? w' ⟨wr.heap.size, 1, none⟩ = some (.int .i64 (u : Int)) ∧ Below (World.heap W0).size W0 w')) (by kernel_rfl) ?hSb5x0 (fun hHeld => ?restb5x0)
              case hSb5x0 => ((try dsimp only); first | with_reducible exact hHeld | with_reducible exact HSK.out _ (ext_drew _) | with_reducible exact HSK.out _ (ext_trans (ext_alloc _ _) (ext_drew _)) | with_reducible exact HSK.out _ (ext_trans (ext_drew _) (ext_alloc _ _)) | with_reducible exact HSK.out _ hx5 | with_reducible exact HSK.out _ (ext_trans hx5 (ext_alloc _ _)))
              case restb5x0 =>
                refine wpAnyH_take (i := 1) (oi := _) (v := ?vb5x1) rfl (by kernel_rfl) (by kernel_rfl) (by kernel_rfl) (fun _ _ _ h => h) (Or.inl ⟨by rfl, ?hyb5x1⟩) (by assumption) ?restb5x1
                case hyb5x1 => ((intro w hSw; (try dsimp only at hSw); go_simp) <;> (with_reducible rfl))
                case restb5x1 =>
                 try simp only [Act.put, List.setIfInBounds_toArray, List.set_cons_zero, List.set_cons_succ]
                 refine wpAnyH_take (i := 2) (oi := _) (v := ?vb5x2) rfl (by kernel_rfl) (by kernel_rfl) (by kernel_rfl) (fun _ _ _ h => h) (Or.inl ⟨by rfl, ?hyb5x2⟩) (by assumption) ?restb5x2
                 case hyb5x2 => ((intro w hSw; (try dsimp only at hSw); go_simp) <;> (with_reducible rfl))
                 case restb5x2 =>
                  try simp only [Act.put, List.setIfInBounds_toArray, List.set_cons_zero, List.set_cons_succ]
                  refine wpAnyH_take (i := 5) (oi := _) (v := ?vb5x3) rfl (by kernel_rfl) (by kernel_rfl) (by kernel_rfl) (fun _ _ _ h => h) (Or.inl ⟨by rfl, ?hyb5x3⟩) (by assumption) ?restb5x3
                  case hyb5x3 => ((intro w hSw; (try dsimp only at hSw); go_simp) <;> (with_reducible rfl))
                  case restb5x3 =>
                   try simp only [Act.put, List.setIfInBounds_toArray, List.set_cons_zero, List.set_cons_succ]
                   refine wpAnyH_take (i := 6) (oi := _) (v := ?vb5x4) rfl (by kernel_rfl) (by kernel_rfl) (by kernel_rfl) (fun _ _ _ h => h) (Or.inl ⟨by rfl, ?hyb5x4⟩) (by assumption) ?restb5x4
                   case hyb5x4 => ((intro w hSw; (try dsimp only at hSw); go_simp) <;> (with_reducible rfl))
                   case restb5x4 =>
                    try simp only [Act.put, List.setIfInBounds_toArray, List.set_cons_zero, List.set_cons_succ]
                    refine wpAnyH_ready (rs := [0, 7]) (by kernel_rfl) (by simp) ?_
                    refine AllReadyH.cons (o := _) rfl (fun K hK => ?stb5x5) ?moreb5x5
                    case stb5x5 =>
                      go_simp
                      refine hK.out _ _ ?hSb5x5 (fun hHeld => ?restb5x5)
                      case hSb5x5 => ((try dsimp only); first | with_reducible exact hHeld | with_reducible exact HSK.out _ (ext_drew _) | with_reducible exact HSK.out _ (ext_trans (ext_alloc _ _) (ext_drew _)) | with_reducible exact HSK.out _ (ext_trans (ext_drew _) (ext_alloc _ _)) | with_reducible exact HSK.out _ hx5 | with_reducible exact HSK.out _ (ext_trans hx5 (ext_alloc _ _)))
                      case restb5x5 =>
                        clear hK K
                        try simp only [Act.put, List.setIfInBounds_toArray, List.set_cons_zero, List.set_cons_succ]
                        refine wpAnyH_ready (rs := [3, 7]) (by kernel_rfl) (by simp) ?_
                        refine AllReadyH.cons (o := _) rfl (fun K hK => ?stb5x6) ?moreb5x6
                        case stb5x6 =>
                          go_simp
                          refine hK.out _ _ ?hSb5x6 (fun hHeld => ?restb5x6)
                          case hSb5x6 => ((try dsimp only); first | with_reducible exact hHeld | with_reducible exact HSK.out _ (ext_drew _) | with_reducible exact HSK.out _ (ext_trans (ext_alloc _ _) (ext_drew _)) | with_reducible exact HSK.out _ (ext_trans (ext_drew _) (ext_alloc _ _)) | with_reducible exact HSK.out _ hx5 | with_reducible exact HSK.out _ (ext_trans hx5 (ext_alloc _ _)))
                          case restb5x6 =>
                            clear hK K
                            try simp only [Act.put, List.setIfInBounds_toArray, List.set_cons_zero, List.set_cons_succ]
                            refine wpAnyH_ready (rs := [4, 7]) (by kernel_rfl) (by simp) ?_
                            refine AllReadyH.cons (o := _) rfl (fun K hK => ?stb5x7) ?moreb5x7
                            case stb5x7 =>
                              go_simp
                              refine hK.out _ _ ?hSb5x7 (fun hHeld => ?restb5x7)
                              case hSb5x7 => ((try dsimp only); first | with_reducible exact hHeld | with_reducible exact HSK.out _ (ext_drew _) | with_reducible exact HSK.out _ (ext_trans (ext_alloc _ _) (ext_drew _)) | with_reducible exact HSK.out _ (ext_trans (ext_drew _) (ext_alloc _ _)) | with_reducible exact HSK.out _ hx5 | with_reducible exact HSK.out _ (ext_trans hx5 (ext_alloc _ _)))
                              case restb5x7 =>
                                clear hK K
                                try simp only [Act.put, List.setIfInBounds_toArray, List.set_cons_zero, List.set_cons_succ]
                                refine wpAnyH_ready (rs := [7]) (by kernel_rfl) (by simp) ?_
                                refine AllReadyH.cons (o := _) rfl (fun K hK => ?stb5x8) ?moreb5x8
                                case stb5x8 =>
                                  go_simp
                                  go_at_call 41
                                  (with_reducible refine (HT1.out _ ?_).mono ?_)
                                  ((first | with_reducible exact ext_drew _ | with_reducible exact ext_trans (ext_alloc _ _) (ext_drew _) | with_reducible exact ext_trans (ext_drew _) (ext_alloc _ _)))
                                  rintro e w5 ⟨rfl, hb5⟩
                                  have hx5 : Below (World.heap W0).size W0 w5 := first_belowI hb5 (by (first | with_reducible exact ext_drew _ | with_reducible exact ext_trans (ext_alloc _ _) (ext_drew _) | with_reducible exact ext_trans (ext_drew _) (ext_alloc _ _)))
                                  have hlc : World.cell? w5 ⟨(World.heap W0).size, 5, none⟩ = some (.string ⟨#[115, 119]⟩) := (hb5.cell (p := ⟨(World.heap W0).size, 5, none⟩) (by simp)).trans (by simp)
                                  refine hK.out _ _ ?hSb5x8 (fun hHeld => ?restb5x8)
                                  case hSb5x8 => ((try dsimp only); first | with_reducible exact hHeld | with_reducible exact HSK.out _ (ext_drew _) | with_reducible exact HSK.out _ (ext_trans (ext_alloc _ _) (ext_drew _)) | with_reducible exact HSK.out _ (ext_trans (ext_drew _) (ext_alloc _ _)) | with_reducible exact HSK.out _ hx5 | with_reducible exact HSK.out _ (ext_trans hx5 (ext_alloc _ _)))
                                  case restb5x8 =>
                                    clear hK K
                                    try simp only [Act.put, List.setIfInBounds_toArray, List.set_cons_zero, List.set_cons_succ]
                                    refine wpAnyH_ready (rs := [8]) (by kernel_rfl) (by simp) ?_
                                    refine AllReadyH.cons (o := _) rfl (fun K hK => ?stb5x9) ?moreb5x9
                                    case stb5x9 =>
                                      go_simp
                                      refine hK.out _ _ ?hSb5x9 (fun hHeld => ?restb5x9)
                                      case hSb5x9 => ((try dsimp only); first | with_reducible exact hHeld | with_reducible exact HSK.out _ (ext_drew _) | with_reducible exact HSK.out _ (ext_trans (ext_alloc _ _) (ext_drew _)) | with_reducible exact HSK.out _ (ext_trans (ext_drew _) (ext_alloc _ _)) | with_reducible exact HSK.out _ hx5 | with_reducible exact HSK.out _ (ext_trans hx5 (ext_alloc _ _)))
                                      case restb5x9 =>
                                        clear hK K
                                        try simp only [Act.put, List.setIfInBounds_toArray, List.set_cons_zero, List.set_cons_succ]
                                        refine wpAnyH_ready (rs := [9]) (by kernel_rfl) (by simp) ?_
                                        refine AllReadyH.cons (o := _) rfl (fun K hK => ?stb5x10) ?moreb5x10
                                        case stb5x10 =>
                                          go_simp
                                          refine hK.out _ _ ?hSb5x10 (fun hHeld => ?restb5x10)
                                          case hSb5x10 => ((try dsimp only); first | with_reducible exact hHeld | with_reducible exact HSK.out _ (ext_drew _) | with_reducible exact HSK.out _ (ext_trans (ext_alloc _ _) (ext_drew _)) | with_reducible exact HSK.out _ (ext_trans (ext_drew _) (ext_alloc _ _)) | with_reducible exact HSK.out _ hx5 | with_reducible exact HSK.out _ (ext_trans hx5 (ext_alloc _ _)))
                                          case restb5x10 =>
                                            clear hK K
                                            try simp only [Act.put, List.setIfInBounds_toArray, List.set_cons_zero, List.set_cons_succ]
                                            refine wpAnyH_done (by kernel_rfl) ?_ _
                                            go_wp2
                                            go_meet
                                            exact ⟨rfl, by first | exact hx5 | (exact hHeld.2.2)⟩
                                        case moreb5x10 =>
                                         exact AllReadyH.nil
                                    case moreb5x9 =>
                                     exact AllReadyH.nil
                                case moreb5x8 =>
                                 exact AllReadyH.nil
                            case moreb5x7 =>
                             refine AllReadyH.cons (o := _) rfl (fun K hK => ?stb5x11) ?moreb5x11
                             case stb5x11 =>
                               go_simp
                               go_at_call 41
                               (with_reducible refine (HT1.out _ ?_).mono ?_)
                               ((first | with_reducible exact ext_drew _ | with_reducible exact ext_trans (ext_alloc _ _) (ext_drew _) | with_reducible exact ext_trans (ext_drew _) (ext_alloc _ _)))
                               rintro e w5 ⟨rfl, hb5⟩
                               have hx5 : Below (World.heap W0).size W0 w5 := first_belowI hb5 (by (first | with_reducible exact ext_drew _ | with_reducible exact ext_trans (ext_alloc _ _) (ext_drew _) | with_reducible exact ext_trans (ext_drew _) (ext_alloc _ _)))
                               have hlc : World.cell? w5 ⟨(World.heap W0).size, 5, none⟩ = some (.string ⟨#[115, 119]⟩) := (hb5.cell (p := ⟨(World.heap W0).size, 5, none⟩) (by simp)).trans (by simp)
                               refine hK.out _ _ ?hSb5x11 (fun hHeld => ?restb5x11)
                               case hSb5x11 => ((try dsimp only); first | with_reducible exact hHeld | with_reducible exact HSK.out _ (ext_drew _) | with_reducible exact HSK.out _ (ext_trans (ext_alloc _ _) (ext_drew _)) | with_reducible exact HSK.out _ (ext_trans (ext_drew _) (ext_alloc _ _)) | with_reducible exact HSK.out _ hx5 | with_reducible exact HSK.out _ (ext_trans hx5 (ext_alloc _ _)))
                               case restb5x11 =>
                                 clear hK K
                                 try simp only [Act.put, List.setIfInBounds_toArray, List.set_cons_zero, List.set_cons_succ]
                                 refine wpAnyH_ready (rs := [4]) (by kernel_rfl) (by simp) ?_
                                 refine AllReadyH.cons (o := _) rfl (fun K hK => ?stb5x12) ?moreb5x12
                                 case stb5x12 =>
                                   go_simp
                                   refine hK.out _ _ ?hSb5x12 (fun hHeld => ?restb5x12)
                                   case hSb5x12 => ((try dsimp only); first | with_reducible exact hHeld | with_reducible exact HSK.out _ (ext_drew _) | with_reducible exact HSK.out _ (ext_trans (ext_alloc _ _) (ext_drew _)) | with_reducible exact HSK.out _ (ext_trans (ext_drew _) (ext_alloc _ _)) | with_reducible exact HSK.out _ hx5 | with_reducible exact HSK.out _ (ext_trans hx5 (ext_alloc _ _)))
                                   case restb5x12 =>
                                     clear hK K
                                     try simp only [Act.put, List.setIfInBounds_toArray, List.set_cons_zero, List.set_cons_succ]
                                     refine wpAnyH_ready (rs := [8]) (by kernel_rfl) (by simp) ?_
                                     refine AllReadyH.cons (o := _) rfl (fun K hK => ?stb5x13) ?moreb5x13
                                     case stb5x13 =>
                                       go_simp
                                       refine hK.out _ _ ?hSb5x13 (fun hHeld => ?restb5x13)
                                       case hSb5x13 => ((try dsimp only); first | with_reducible exact hHeld | with_reducible exact HSK.out _ (ext_drew _) | with_reducible exact HSK.out _ (ext_trans (ext_alloc _ _) (ext_drew _)) | with_reducible exact HSK.out _ (ext_trans (ext_drew _) (ext_alloc _ _)) | with_reducible exact HSK.out _ hx5 | with_reducible exact HSK.out _ (ext_trans hx5 (ext_alloc _ _)))
                                       case restb5x13 =>
                                         clear hK K
                                         try simp only [Act.put, List.setIfInBounds_toArray, List.set_cons_zero, List.set_cons_succ]
                                         refine wpAnyH_ready (rs := [9]) (by kernel_rfl) (by simp) ?_
                                         refine AllReadyH.cons (o := _) rfl (fun K hK => ?stb5x14) ?moreb5x14
                                         case stb5x14 =>
                                           go_simp
                                           refine hK.out _ _ ?hSb5x14 (fun hHeld => ?restb5x14)
                                           case hSb5x14 => ((try dsimp only); first | with_reducible exact hHeld | with_reducible exact HSK.out _ (ext_drew _) | with_reducible exact HSK.out _ (ext_trans (ext_alloc _ _) (ext_drew _)) | with_reducible exact HSK.out _ (ext_trans (ext_drew _) (ext_alloc _ _)) | with_reducible exact HSK.out _ hx5 | with_reducible exact HSK.out _ (ext_trans hx5 (ext_alloc _ _)))
                                           case restb5x14 =>
                                             clear hK K
                                             try simp only [Act.put, List.setIfInBounds_toArray, List.set_cons_zero, List.set_cons_succ]
                                             refine wpAnyH_done (by kernel_rfl) ?_ _
                                             go_wp2
                                             go_meet
                                             exact ⟨rfl, by first | exact hx5 | (exact hHeld.2.2)⟩
                                         case moreb5x14 =>
                                          exact AllReadyH.nil
                                     case moreb5x13 =>
                                      exact AllReadyH.nil
                                 case moreb5x12 =>
                                  exact AllReadyH.nil
                             case moreb5x11 =>
                              exact AllReadyH.nil
                        case moreb5x6 =>
                         refine AllReadyH.cons (o := _) rfl (fun K hK => ?stb5x15) ?moreb5x15
                         case stb5x15 =>
                           go_simp
                           go_at_call 41
                           (with_reducible refine (HT1.out _ ?_).mono ?_)
                           ((first | with_reducible exact ext_drew _ | with_reducible exact ext_trans (ext_alloc _ _) (ext_drew _) | with_reducible exact ext_trans (ext_drew _) (ext_alloc _ _)))
                           rintro e w5 ⟨rfl, hb5⟩
                           have hx5 : Below (World.heap W0).size W0 w5 := first_belowI hb5 (by (first | with_reducible exact ext_drew _ | with_reducible exact ext_trans (ext_alloc _ _) (ext_drew _) | with_reducible exact ext_trans (ext_drew _) (ext_alloc _ _)))
                           have hlc : World.cell? w5 ⟨(World.heap W0).size, 5, none⟩ = some (.string ⟨#[115, 119]⟩) := (hb5.cell (p := ⟨(World.heap W0).size, 5, none⟩) (by simp)).trans (by simp)
                           refine hK.out _ _ ?hSb5x15 (fun hHeld => ?restb5x15)
                           case hSb5x15 => ((try dsimp only); first | with_reducible exact hHeld | with_reducible exact HSK.out _ (ext_drew _) | with_reducible exact HSK.out _ (ext_trans (ext_alloc _ _) (ext_drew _)) | with_reducible exact HSK.out _ (ext_trans (ext_drew _) (ext_alloc _ _)) | with_reducible exact HSK.out _ hx5 | with_reducible exact HSK.out _ (ext_trans hx5 (ext_alloc _ _)))
                           case restb5x15 =>
                             clear hK K
                             try simp only [Act.put, List.setIfInBounds_toArray, List.set_cons_zero, List.set_cons_succ]
                             refine wpAnyH_ready (rs := [3]) (by kernel_rfl) (by simp) ?_
                             refine AllReadyH.cons (o := _) rfl (fun K hK => ?stb5x16) ?moreb5x16
                             case stb5x16 =>
                               go_simp
                               refine hK.out _ _ ?hSb5x16 (fun hHeld => ?restb5x16)
                               case hSb5x16 => ((try dsimp only); first | with_reducible exact hHeld | with_reducible exact HSK.out _ (ext_drew _) | with_reducible exact HSK.out _ (ext_trans (ext_alloc _ _) (ext_drew _)) | with_reducible exact HSK.out _ (ext_trans (ext_drew _) (ext_alloc _ _)) | with_reducible exact HSK.out _ hx5 | with_reducible exact HSK.out _ (ext_trans hx5 (ext_alloc _ _)))
                               case restb5x16 =>
                                 clear hK K
                                 try simp only [Act.put, List.setIfInBounds_toArray, List.set_cons_zero, List.set_cons_succ]
                                 refine wpAnyH_ready (rs := [4]) (by kernel_rfl) (by simp) ?_
                                 refine AllReadyH.cons (o := _) rfl (fun K hK => ?stb5x17) ?moreb5x17
                                 case stb5x17 =>
                                   go_simp
                                   refine hK.out _ _ ?hSb5x17 (fun hHeld => ?restb5x17)
                                   case hSb5x17 => ((try dsimp only); first | with_reducible exact hHeld | with_reducible exact HSK.out _ (ext_drew _) | with_reducible exact HSK.out _ (ext_trans (ext_alloc _ _) (ext_drew _)) | with_reducible exact HSK.out _ (ext_trans (ext_drew _) (ext_alloc _ _)) | with_reducible exact HSK.out _ hx5 | with_reducible exact HSK.out _ (ext_trans hx5 (ext_alloc _ _)))
                                   case restb5x17 =>
                                     clear hK K
                                     try simp only [Act.put, List.setIfInBounds_toArray, List.set_cons_zero, List.set_cons_succ]
                                     refine wpAnyH_ready (rs := [8]) (by kernel_rfl) (by simp) ?_
                                     refine AllReadyH.cons (o := _) rfl (fun K hK => ?stb5x18) ?moreb5x18
                                     case stb5x18 =>
                                       go_simp
                                       refine hK.out _ _ ?hSb5x18 (fun hHeld => ?restb5x18)
                                       case hSb5x18 => ((try dsimp only); first | with_reducible exact hHeld | with_reducible exact HSK.out _ (ext_drew _) | with_reducible exact HSK.out _ (ext_trans (ext_alloc _ _) (ext_drew _)) | with_reducible exact HSK.out _ (ext_trans (ext_drew _) (ext_alloc _ _)) | with_reducible exact HSK.out _ hx5 | with_reducible exact HSK.out _ (ext_trans hx5 (ext_alloc _ _)))
                                       case restb5x18 =>
                                         clear hK K
                                         try simp only [Act.put, List.setIfInBounds_toArray, List.set_cons_zero, List.set_cons_succ]
                                         refine wpAnyH_ready (rs := [9]) (by kernel_rfl) (by simp) ?_
                                         refine AllReadyH.cons (o := _) rfl (fun K hK => ?stb5x19) ?moreb5x19
                                         case stb5x19 =>
                                           go_simp
                                           refine hK.out _ _ ?hSb5x19 (fun hHeld => ?restb5x19)
                                           case hSb5x19 => ((try dsimp only); first | with_reducible exact hHeld | with_reducible exact HSK.out _ (ext_drew _) | with_reducible exact HSK.out _ (ext_trans (ext_alloc _ _) (ext_drew _)) | with_reducible exact HSK.out _ (ext_trans (ext_drew _) (ext_alloc _ _)) | with_reducible exact HSK.out _ hx5 | with_reducible exact HSK.out _ (ext_trans hx5 (ext_alloc _ _)))
                                           case restb5x19 =>
                                             clear hK K
                                             try simp only [Act.put, List.setIfInBounds_toArray, List.set_cons_zero, List.set_cons_succ]
                                             refine wpAnyH_done (by kernel_rfl) ?_ _
                                             go_wp2
                                             go_meet
                                             exact ⟨rfl, by first | exact hx5 | (exact hHeld.2.2)⟩
                                         case moreb5x19 =>
                                          exact AllReadyH.nil
                                     case moreb5x18 =>
                                      exact AllReadyH.nil
                                 case moreb5x17 =>
                                  exact AllReadyH.nil
                             case moreb5x16 =>
                              exact AllReadyH.nil
                         case moreb5x15 =>
                          exact AllReadyH.nil
                    case moreb5x5 =>
                     refine AllReadyH.cons (o := _) rfl (fun K hK => ?stb5x20) ?moreb5x20
                     case stb5x20 =>
                       go_simp
                       go_at_call 41
                       (with_reducible refine (HT1.out _ ?_).mono ?_)
                       ((first | with_reducible exact ext_drew _ | with_reducible exact ext_trans (ext_alloc _ _) (ext_drew _) | with_reducible exact ext_trans (ext_drew _) (ext_alloc _ _)))
                       rintro e w5 ⟨rfl, hb5⟩
                       have hx5 : Below (World.heap W0).size W0 w5 := first_belowI hb5 (by (first | with_reducible exact ext_drew _ | with_reducible exact ext_trans (ext_alloc _ _) (ext_drew _) | with_reducible exact ext_trans (ext_drew _) (ext_alloc _ _)))
                       refine hK.out _ _ ?hSb5x20 (fun hHeld => ?restb5x20)
                       case hSb5x20 => ((try dsimp only); first | with_reducible exact hHeld | with_reducible exact HSK.out _ (ext_drew _) | with_reducible exact HSK.out _ (ext_trans (ext_alloc _ _) (ext_drew _)) | with_reducible exact HSK.out _ (ext_trans (ext_drew _) (ext_alloc _ _)) | with_reducible exact HSK.out _ hx5 | with_reducible exact HSK.out _ (ext_trans hx5 (ext_alloc _ _)))
                       case restb5x20 =>
                         clear hK K
                         try simp only [Act.put, List.setIfInBounds_toArray, List.set_cons_zero, List.set_cons_succ]
                         refine wpAnyH_ready (rs := [0]) (by kernel_rfl) (by simp) ?_
                         refine AllReadyH.cons (o := _) rfl (fun K hK => ?stb5x21) ?moreb5x21
                         case stb5x21 =>
                           go_simp
                           refine hK.out _ _ ?hSb5x21 (fun hHeld => ?restb5x21)
                           case hSb5x21 => ((try dsimp only); first | with_reducible exact hHeld | with_reducible exact HSK.out _ (ext_drew _) | with_reducible exact HSK.out _ (ext_trans (ext_alloc _ _) (ext_drew _)) | with_reducible exact HSK.out _ (ext_trans (ext_drew _) (ext_alloc _ _)) | with_reducible exact HSK.out _ hx5 | with_reducible exact HSK.out _ (ext_trans hx5 (ext_alloc _ _)))
                           case restb5x21 =>
                             clear hK K
                             try simp only [Act.put, List.setIfInBounds_toArray, List.set_cons_zero, List.set_cons_succ]
                             refine wpAnyH_ready (rs := [3]) (by kernel_rfl) (by simp) ?_
                             refine AllReadyH.cons (o := _) rfl (fun K hK => ?stb5x22) ?moreb5x22
                             case stb5x22 =>
                               go_simp
                               refine hK.out _ _ ?hSb5x22 (fun hHeld => ?restb5x22)
                               case hSb5x22 => ((try dsimp only); first | with_reducible exact hHeld | with_reducible exact HSK.out _ (ext_drew _) | with_reducible exact HSK.out _ (ext_trans (ext_alloc _ _) (ext_drew _)) | with_reducible exact HSK.out _ (ext_trans (ext_drew _) (ext_alloc _ _)) | with_reducible exact HSK.out _ hx5 | with_reducible exact HSK.out _ (ext_trans hx5 (ext_alloc _ _)))
                               case restb5x22 =>
                                 clear hK K
                                 try simp only [Act.put, List.setIfInBounds_toArray, List.set_cons_zero, List.set_cons_succ]
                                 refine wpAnyH_ready (rs := [4]) (by kernel_rfl) (by simp) ?_
                                 refine AllReadyH.cons (o := _) rfl (fun K hK => ?stb5x23) ?moreb5x23
                                 case stb5x23 =>
                                   go_simp
                                   refine hK.out _ _ ?hSb5x23 (fun hHeld => ?restb5x23)
                                   case hSb5x23 => ((try dsimp only); first | with_reducible exact hHeld | with_reducible exact HSK.out _ (ext_drew _) | with_reducible exact HSK.out _ (ext_trans (ext_alloc _ _) (ext_drew _)) | with_reducible exact HSK.out _ (ext_trans (ext_drew _) (ext_alloc _ _)) | with_reducible exact HSK.out _ hx5 | with_reducible exact HSK.out _ (ext_trans hx5 (ext_alloc _ _)))
                                   case restb5x23 =>
                                     clear hK K
                                     try simp only [Act.put, List.setIfInBounds_toArray, List.set_cons_zero, List.set_cons_succ]
                                     refine wpAnyH_ready (rs := [8]) (by kernel_rfl) (by simp) ?_
                                     refine AllReadyH.cons (o := _) rfl (fun K hK => ?stb5x24) ?moreb5x24
                                     case stb5x24 =>
                                       go_simp
                                       refine hK.out _ _ ?hSb5x24 (fun hHeld => ?restb5x24)
                                       case hSb5x24 => ((try dsimp only); first | with_reducible exact hHeld | with_reducible exact HSK.out _ (ext_drew _) | with_reducible exact HSK.out _ (ext_trans (ext_alloc _ _) (ext_drew _)) | with_reducible exact HSK.out _ (ext_trans (ext_drew _) (ext_alloc _ _)) | with_reducible exact HSK.out _ hx5 | with_reducible exact HSK.out _ (ext_trans hx5 (ext_alloc _ _)))
                                       case restb5x24 =>
                                         clear hK K
                                         try simp only [Act.put, List.setIfInBounds_toArray, List.set_cons_zero, List.set_cons_succ]
                                         refine wpAnyH_ready (rs := [9]) (by kernel_rfl) (by simp) ?_
                                         refine AllReadyH.cons (o := _) rfl (fun K hK => ?stb5x25) ?moreb5x25
                                         case stb5x25 =>
                                           go_simp
                                           refine hK.out _ _ ?hSb5x25 (fun hHeld => ?restb5x25)
                                           case hSb5x25 => ((try dsimp only); first | with_reducible exact hHeld | with_reducible exact HSK.out _ (ext_drew _) | with_reducible exact HSK.out _ (ext_trans (ext_alloc _ _) (ext_drew _)) | with_reducible exact HSK.out _ (ext_trans (ext_drew _) (ext_alloc _ _)) | with_reducible exact HSK.out _ hx5 | with_reducible exact HSK.out _ (ext_trans hx5 (ext_alloc _ _)))
                                           case restb5x25 =>
                                             clear hK K
                                             try simp only [Act.put, List.setIfInBounds_toArray, List.set_cons_zero, List.set_cons_succ]
                                             refine wpAnyH_done (by kernel_rfl) ?_ _
                                             go_wp2
                                             go_meet
                                             exact ⟨rfl, by first | exact hx5 | (exact hHeld.2.2)⟩
                                         case moreb5x25 =>
                                          exact AllReadyH.nil
                                     case moreb5x24 =>
                                      exact AllReadyH.nil
                                 case moreb5x23 =>
                                  exact AllReadyH.nil
                             case moreb5x22 =>
                              exact AllReadyH.nil
                         case moreb5x21 =>
                          exact AllReadyH.nil
                     case moreb5x20 =>
                      exact AllReadyH.nil
            · have HSK := Lib.hid (fun (w' : World) (hb : Below (World.heap W0).size W0 w') => (show World.cell? w' ⟨wr.heap.size, 0, none⟩ = some (.int .i64 6) ∧ World.cell? w' ⟨wr.heap.size, 1, none⟩ = some (.int .i64 (u : Int)) ∧ Below (World.heap W0).size W0 w' from ⟨(hb.cell (p := ⟨wr.heap.size, 0, none⟩) hyb).trans v0, (hb.cell (p := ⟨wr.heap.size, 1, none⟩) hyb).trans v1, hb⟩))
              refine wp_region_held_drew (S := (fun w' => World.cell? w' ⟨wr.heap.size, 0, none⟩ = some (.int .i64 6) ∧ World.cell? w' ⟨wr.heap.size, 1, none⟩ = some (.int .i64 (u : Int)) ∧ Below (World.heap W0).size W0 w')) (by kernel_rfl) ?hSb6x0 (fun hHeld => ?restb6x0)
              case hSb6x0 => ((try dsimp only); first | with_reducible exact hHeld | with_reducible exact HSK.out _ (ext_drew _) | with_reducible exact HSK.out _ (ext_trans (ext_alloc _ _) (ext_drew _)) | with_reducible exact HSK.out _ (ext_trans (ext_drew _) (ext_alloc _ _)) | with_reducible exact HSK.out _ hx5 | with_reducible exact HSK.out _ (ext_trans hx5 (ext_alloc _ _)))
              case restb6x0 =>
                refine wpAnyH_take (i := 1) (oi := _) (v := ?vb6x1) rfl (by kernel_rfl) (by kernel_rfl) (by kernel_rfl) (fun _ _ _ h => h) (Or.inl ⟨by rfl, ?hyb6x1⟩) (by assumption) ?restb6x1
                case hyb6x1 => ((intro w hSw; (try dsimp only at hSw); go_simp) <;> (with_reducible rfl))
                case restb6x1 =>
                 try simp only [Act.put, List.setIfInBounds_toArray, List.set_cons_zero, List.set_cons_succ]
                 refine wpAnyH_take (i := 2) (oi := _) (v := ?vb6x2) rfl (by kernel_rfl) (by kernel_rfl) (by kernel_rfl) (fun _ _ _ h => h) (Or.inl ⟨by rfl, ?hyb6x2⟩) (by assumption) ?restb6x2
                 case hyb6x2 => ((intro w hSw; (try dsimp only at hSw); go_simp) <;> (with_reducible rfl))
                 case restb6x2 =>
                  try simp only [Act.put, List.setIfInBounds_toArray, List.set_cons_zero, List.set_cons_succ]
                  refine wpAnyH_take (i := 5) (oi := _) (v := ?vb6x3) rfl (by kernel_rfl) (by kernel_rfl) (by kernel_rfl) (fun _ _ _ h => h) (Or.inl ⟨by rfl, ?hyb6x3⟩) (by assumption) ?restb6x3
                  case hyb6x3 => ((intro w hSw; (try dsimp only at hSw); go_simp) <;> (with_reducible rfl))
                  case restb6x3 =>
                   try simp only [Act.put, List.setIfInBounds_toArray, List.set_cons_zero, List.set_cons_succ]
                   refine wpAnyH_take (i := 6) (oi := _) (v := ?vb6x4) rfl (by kernel_rfl) (by kernel_rfl) (by kernel_rfl) (fun _ _ _ h => h) (Or.inl ⟨by rfl, ?hyb6x4⟩) (by assumption) ?restb6x4
                   case hyb6x4 => ((intro w hSw; (try dsimp only at hSw); go_simp) <;> (with_reducible rfl))
                   case restb6x4 =>
                    try simp only [Act.put, List.setIfInBounds_toArray, List.set_cons_zero, List.set_cons_succ]
                    refine wpAnyH_ready (rs := [0, 7]) (by kernel_rfl) (by simp) ?_
                    refine AllReadyH.cons (o := _) rfl (fun K hK => ?stb6x5) ?moreb6x5
                    case stb6x5 =>
                      go_simp
                      refine hK.out _ _ ?hSb6x5 (fun hHeld => ?restb6x5)
                      case hSb6x5 => ((try dsimp only); first | with_reducible exact hHeld | with_reducible exact HSK.out _ (ext_drew _) | with_reducible exact HSK.out _ (ext_trans (ext_alloc _ _) (ext_drew _)) | with_reducible exact HSK.out _ (ext_trans (ext_drew _) (ext_alloc _ _)) | with_reducible exact HSK.out _ hx5 | with_reducible exact HSK.out _ (ext_trans hx5 (ext_alloc _ _)))
                      case restb6x5 =>
                        clear hK K
                        try simp only [Act.put, List.setIfInBounds_toArray, List.set_cons_zero, List.set_cons_succ]
                        refine wpAnyH_ready (rs := [3, 7]) (by kernel_rfl) (by simp) ?_
                        refine AllReadyH.cons (o := _) rfl (fun K hK => ?stb6x6) ?moreb6x6
                        case stb6x6 =>
                          go_simp
                          refine hK.out _ _ ?hSb6x6 (fun hHeld => ?restb6x6)
                          case hSb6x6 => ((try dsimp only); first | with_reducible exact hHeld | with_reducible exact HSK.out _ (ext_drew _) | with_reducible exact HSK.out _ (ext_trans (ext_alloc _ _) (ext_drew _)) | with_reducible exact HSK.out _ (ext_trans (ext_drew _) (ext_alloc _ _)) | with_reducible exact HSK.out _ hx5 | with_reducible exact HSK.out _ (ext_trans hx5 (ext_alloc _ _)))
                          case restb6x6 =>
                            clear hK K
                            try simp only [Act.put, List.setIfInBounds_toArray, List.set_cons_zero, List.set_cons_succ]
                            refine wpAnyH_ready (rs := [4, 7]) (by kernel_rfl) (by simp) ?_
                            refine AllReadyH.cons (o := _) rfl (fun K hK => ?stb6x7) ?moreb6x7
                            case stb6x7 =>
                              go_simp
                              refine hK.out _ _ ?hSb6x7 (fun hHeld => ?restb6x7)
                              case hSb6x7 => ((try dsimp only); first | with_reducible exact hHeld | with_reducible exact HSK.out _ (ext_drew _) | with_reducible exact HSK.out _ (ext_trans (ext_alloc _ _) (ext_drew _)) | with_reducible exact HSK.out _ (ext_trans (ext_drew _) (ext_alloc _ _)) | with_reducible exact HSK.out _ hx5 | with_reducible exact HSK.out _ (ext_trans hx5 (ext_alloc _ _)))
                              case restb6x7 =>
                                clear hK K
                                try simp only [Act.put, List.setIfInBounds_toArray, List.set_cons_zero, List.set_cons_succ]
                                refine wpAnyH_ready (rs := [7]) (by kernel_rfl) (by simp) ?_
                                refine AllReadyH.cons (o := _) rfl (fun K hK => ?stb6x8) ?moreb6x8
                                case stb6x8 =>
                                  go_simp
                                  go_at_call 41
                                  (with_reducible refine (HT1.out _ ?_).mono ?_)
                                  ((first | with_reducible exact ext_drew _ | with_reducible exact ext_trans (ext_alloc _ _) (ext_drew _) | with_reducible exact ext_trans (ext_drew _) (ext_alloc _ _)))
                                  rintro e w5 ⟨rfl, hb5⟩
                                  have hx5 : Below (World.heap W0).size W0 w5 := first_belowI hb5 (by (first | with_reducible exact ext_drew _ | with_reducible exact ext_trans (ext_alloc _ _) (ext_drew _) | with_reducible exact ext_trans (ext_drew _) (ext_alloc _ _)))
                                  have hlc : World.cell? w5 ⟨(World.heap W0).size, 6, none⟩ = some (.string ⟨#[119]⟩) := (hb5.cell (p := ⟨(World.heap W0).size, 6, none⟩) (by simp)).trans (by simp)
                                  refine hK.out _ _ ?hSb6x8 (fun hHeld => ?restb6x8)
                                  case hSb6x8 => ((try dsimp only); first | with_reducible exact hHeld | with_reducible exact HSK.out _ (ext_drew _) | with_reducible exact HSK.out _ (ext_trans (ext_alloc _ _) (ext_drew _)) | with_reducible exact HSK.out _ (ext_trans (ext_drew _) (ext_alloc _ _)) | with_reducible exact HSK.out _ hx5 | with_reducible exact HSK.out _ (ext_trans hx5 (ext_alloc _ _)))
                                  case restb6x8 =>
                                    clear hK K
                                    try simp only [Act.put, List.setIfInBounds_toArray, List.set_cons_zero, List.set_cons_succ]
                                    refine wpAnyH_ready (rs := [8]) (by kernel_rfl) (by simp) ?_
                                    refine AllReadyH.cons (o := _) rfl (fun K hK => ?stb6x9) ?moreb6x9
                                    case stb6x9 =>
                                      go_simp
                                      refine hK.out _ _ ?hSb6x9 (fun hHeld => ?restb6x9)
                                      case hSb6x9 => ((try dsimp only); first | with_reducible exact hHeld | with_reducible exact HSK.out _ (ext_drew _) | with_reducible exact HSK.out _ (ext_trans (ext_alloc _ _) (ext_drew _)) | with_reducible exact HSK.out _ (ext_trans (ext_drew _) (ext_alloc _ _)) | with_reducible exact HSK.out _ hx5 | with_reducible exact HSK.out _ (ext_trans hx5 (ext_alloc _ _)))
                                      case restb6x9 =>
                                        clear hK K
                                        try simp only [Act.put, List.setIfInBounds_toArray, List.set_cons_zero, List.set_cons_succ]
                                        refine wpAnyH_ready (rs := [9]) (by kernel_rfl) (by simp) ?_
                                        refine AllReadyH.cons (o := _) rfl (fun K hK => ?stb6x10) ?moreb6x10
                                        case stb6x10 =>
                                          go_simp
                                          refine hK.out _ _ ?hSb6x10 (fun hHeld => ?restb6x10)
                                          case hSb6x10 => ((try dsimp only); first | with_reducible exact hHeld | with_reducible exact HSK.out _ (ext_drew _) | with_reducible exact HSK.out _ (ext_trans (ext_alloc _ _) (ext_drew _)) | with_reducible exact HSK.out _ (ext_trans (ext_drew _) (ext_alloc _ _)) | with_reducible exact HSK.out _ hx5 | with_reducible exact HSK.out _ (ext_trans hx5 (ext_alloc _ _)))
                                          case restb6x10 =>
                                            clear hK K
                                            try simp only [Act.put, List.setIfInBounds_toArray, List.set_cons_zero, List.set_cons_succ]
                                            refine wpAnyH_done (by kernel_rfl) ?_ _
                                            go_wp2
                                            go_meet
                                            exact ⟨rfl, by first | exact hx5 | (exact hHeld.2.2)⟩
                                        case moreb6x10 =>
                                         exact AllReadyH.nil
                                    case moreb6x9 =>
                                     exact AllReadyH.nil
                                case moreb6x8 =>
                                 exact AllReadyH.nil
                            case moreb6x7 =>
                             refine AllReadyH.cons (o := _) rfl (fun K hK => ?stb6x11) ?moreb6x11
                             case stb6x11 =>
                               go_simp
                               go_at_call 41
                               (with_reducible refine (HT1.out _ ?_).mono ?_)
                               ((first | with_reducible exact ext_drew _ | with_reducible exact ext_trans (ext_alloc _ _) (ext_drew _) | with_reducible exact ext_trans (ext_drew _) (ext_alloc _ _)))
                               rintro e w5 ⟨rfl, hb5⟩
                               have hx5 : Below (World.heap W0).size W0 w5 := first_belowI hb5 (by (first | with_reducible exact ext_drew _ | with_reducible exact ext_trans (ext_alloc _ _) (ext_drew _) | with_reducible exact ext_trans (ext_drew _) (ext_alloc _ _)))
                               have hlc : World.cell? w5 ⟨(World.heap W0).size, 6, none⟩ = some (.string ⟨#[119]⟩) := (hb5.cell (p := ⟨(World.heap W0).size, 6, none⟩) (by simp)).trans (by simp)
                               refine hK.out _ _ ?hSb6x11 (fun hHeld => ?restb6x11)
                               case hSb6x11 => ((try dsimp only); first | with_reducible exact hHeld | with_reducible exact HSK.out _ (ext_drew _) | with_reducible exact HSK.out _ (ext_trans (ext_alloc _ _) (ext_drew _)) | with_reducible exact HSK.out _ (ext_trans (ext_drew _) (ext_alloc _ _)) | with_reducible exact HSK.out _ hx5 | with_reducible exact HSK.out _ (ext_trans hx5 (ext_alloc _ _)))
                               case restb6x11 =>
                                 clear hK K
                                 try simp only [Act.put, List.setIfInBounds_toArray, List.set_cons_zero, List.set_cons_succ]
                                 refine wpAnyH_ready (rs := [4]) (by kernel_rfl) (by simp) ?_
                                 refine AllReadyH.cons (o := _) rfl (fun K hK => ?stb6x12) ?moreb6x12
                                 case stb6x12 =>
                                   go_simp
                                   refine hK.out _ _ ?hSb6x12 (fun hHeld => ?restb6x12)
                                   case hSb6x12 => ((try dsimp only); first | with_reducible exact hHeld | with_reducible exact HSK.out _ (ext_drew _) | with_reducible exact HSK.out _ (ext_trans (ext_alloc _ _) (ext_drew _)) | with_reducible exact HSK.out _ (ext_trans (ext_drew _) (ext_alloc _ _)) | with_reducible exact HSK.out _ hx5 | with_reducible exact HSK.out _ (ext_trans hx5 (ext_alloc _ _)))
                                   case restb6x12 =>
                                     clear hK K
                                     try simp only [Act.put, List.setIfInBounds_toArray, List.set_cons_zero, List.set_cons_succ]
                                     refine wpAnyH_ready (rs := [8]) (by kernel_rfl) (by simp) ?_
                                     refine AllReadyH.cons (o := _) rfl (fun K hK => ?stb6x13) ?moreb6x13
                                     case stb6x13 =>
                                       go_simp
                                       refine hK.out _ _ ?hSb6x13 (fun hHeld => ?restb6x13)
                                       case hSb6x13 => ((try dsimp only); first | with_reducible exact hHeld | with_reducible exact HSK.out _ (ext_drew _) | with_reducible exact HSK.out _ (ext_trans (ext_alloc _ _) (ext_drew _)) | with_reducible exact HSK.out _ (ext_trans (ext_drew _) (ext_alloc _ _)) | with_reducible exact HSK.out _ hx5 | with_reducible exact HSK.out _ (ext_trans hx5 (ext_alloc _ _)))
                                       case restb6x13 =>
                                         clear hK K
                                         try simp only [Act.put, List.setIfInBounds_toArray, List.set_cons_zero, List.set_cons_succ]
                                         refine wpAnyH_ready (rs := [9]) (by kernel_rfl) (by simp) ?_
                                         refine AllReadyH.cons (o := _) rfl (fun K hK => ?stb6x14) ?moreb6x14
                                         case stb6x14 =>
                                           go_simp
                                           refine hK.out _ _ ?hSb6x14 (fun hHeld => ?restb6x14)
                                           case hSb6x14 => ((try dsimp only); first | with_reducible exact hHeld | with_reducible exact HSK.out _ (ext_drew _) | with_reducible exact HSK.out _ (ext_trans (ext_alloc _ _) (ext_drew _)) | with_reducible exact HSK.out _ (ext_trans (ext_drew _) (ext_alloc _ _)) | with_reducible exact HSK.out _ hx5 | with_reducible exact HSK.out _ (ext_trans hx5 (ext_alloc _ _)))
                                           case restb6x14 =>
                                             clear hK K
                                             try simp only [Act.put, List.setIfInBounds_toArray, List.set_cons_zero, List.set_cons_succ]
                                             refine wpAnyH_done (by kernel_rfl) ?_ _
                                             go_wp2
                                             go_meet
                                             exact ⟨rfl, by first | exact hx5 | (exact hHeld.2.2)⟩
                                         case moreb6x14 =>
                                          exact AllReadyH.nil
                                     case moreb6x13 =>
                                      exact AllReadyH.nil
                                 case moreb6x12 =>
                                  exact AllReadyH.nil
                             case moreb6x11 =>
                              exact AllReadyH.nil
                        case moreb6x6 =>
                         refine AllReadyH.cons (o := _) rfl (fun K hK => ?stb6x15) ?moreb6x15
                         case stb6x15 =>
                           go_simp
                           go_at_call 41
                           (with_reducible refine (HT1.out _ ?_).mono ?_)
                           ((first | with_reducible exact ext_drew _ | with_reducible exact ext_trans (ext_alloc _ _) (ext_drew _) | with_reducible exact ext_trans (ext_drew _) (ext_alloc _ _)))
                           rintro e w5 ⟨rfl, hb5⟩
                           have hx5 : Below (World.heap W0).size W0 w5 := first_belowI hb5 (by (first | with_reducible exact ext_drew _ | with_reducible exact ext_trans (ext_alloc _ _) (ext_drew _) | with_reducible exact ext_trans (ext_drew _) (ext_alloc _ _)))
                           have hlc : World.cell? w5 ⟨(World.heap W0).size, 6, none⟩ = some (.string ⟨#[119]⟩) := (hb5.cell (p := ⟨(World.heap W0).size, 6, none⟩) (by simp)).trans (by simp)
                           refine hK.out _ _ ?hSb6x15 (fun hHeld => ?restb6x15)
                           case hSb6x15 => ((try dsimp only); first | with_reducible exact hHeld | with_reducible exact HSK.out _ (ext_drew _) | with_reducible exact HSK.out _ (ext_trans (ext_alloc _ _) (ext_drew _)) | with_reducible exact HSK.out _ (ext_trans (ext_drew _) (ext_alloc _ _)) | with_reducible exact HSK.out _ hx5 | with_reducible exact HSK.out _ (ext_trans hx5 (ext_alloc _ _)))
                           case restb6x15 =>
                             clear hK K
                             try simp only [Act.put, List.setIfInBounds_toArray, List.set_cons_zero, List.set_cons_succ]
                             refine wpAnyH_ready (rs := [3]) (by kernel_rfl) (by simp) ?_
                             refine AllReadyH.cons (o := _) rfl (fun K hK => ?stb6x16) ?moreb6x16
                             case stb6x16 =>
                               go_simp
                               refine hK.out _ _ ?hSb6x16 (fun hHeld => ?restb6x16)
                               case hSb6x16 => ((try dsimp only); first | with_reducible exact hHeld | with_reducible exact HSK.out _ (ext_drew _) | with_reducible exact HSK.out _ (ext_trans (ext_alloc _ _) (ext_drew _)) | with_reducible exact HSK.out _ (ext_trans (ext_drew _) (ext_alloc _ _)) | with_reducible exact HSK.out _ hx5 | with_reducible exact HSK.out _ (ext_trans hx5 (ext_alloc _ _)))
                               case restb6x16 =>
                                 clear hK K
                                 try simp only [Act.put, List.setIfInBounds_toArray, List.set_cons_zero, List.set_cons_succ]
                                 refine wpAnyH_ready (rs := [4]) (by kernel_rfl) (by simp) ?_
                                 refine AllReadyH.cons (o := _) rfl (fun K hK => ?stb6x17) ?moreb6x17
                                 case stb6x17 =>
                                   go_simp
                                   refine hK.out _ _ ?hSb6x17 (fun hHeld => ?restb6x17)
                                   case hSb6x17 => ((try dsimp only); first | with_reducible exact hHeld | with_reducible exact HSK.out _ (ext_drew _) | with_reducible exact HSK.out _ (ext_trans (ext_alloc _ _) (ext_drew _)) | with_reducible exact HSK.out _ (ext_trans (ext_drew _) (ext_alloc _ _)) | with_reducible exact HSK.out _ hx5 | with_reducible exact HSK.out _ (ext_trans hx5 (ext_alloc _ _)))
                                   case restb6x17 =>
                                     clear hK K
                                     try simp only [Act.put, List.setIfInBounds_toArray, List.set_cons_zero, List.set_cons_succ]
                                     refine wpAnyH_ready (rs := [8]) (by kernel_rfl) (by simp) ?_
                                     refine AllReadyH.cons (o := _) rfl (fun K hK => ?stb6x18) ?moreb6x18
                                     case stb6x18 =>
                                       go_simp
                                       refine hK.out _ _ ?hSb6x18 (fun hHeld => ?restb6x18)
                                       case hSb6x18 => ((try dsimp only); first | with_reducible exact hHeld | with_reducible exact HSK.out _ (ext_drew _) | with_reducible exact HSK.out _ (ext_trans (ext_alloc _ _) (ext_drew _)) | with_reducible exact HSK.out _ (ext_trans (ext_drew _) (ext_alloc _ _)) | with_reducible exact HSK.out _ hx5 | with_reducible exact HSK.out _ (ext_trans hx5 (ext_alloc _ _)))
                                       case restb6x18 =>
                                         clear hK K
                                         try simp only [Act.put, List.setIfInBounds_toArray, List.set_cons_zero, List.set_cons_succ]
                                         refine wpAnyH_ready (rs := [9]) (by kernel_rfl) (by simp) ?_
                                         refine AllReadyH.cons (o := _) rfl (fun K hK => ?stb6x19) ?moreb6x19
                                         case stb6x19 =>
                                           go_simp
                                           refine hK.out _ _ ?hSb6x19 (fun hHeld => ?restb6x19)
                                           case hSb6x19 => ((try dsimp only); first | with_reducible exact hHeld | with_reducible exact HSK.out _ (ext_drew _) | with_reducible exact HSK.out _ (ext_trans (ext_alloc _ _) (ext_drew _)) | with_reducible exact HSK.out _ (ext_trans (ext_drew _) (ext_alloc _ _)) | with_reducible exact HSK.out _ hx5 | with_reducible exact HSK.out _ (ext_trans hx5 (ext_alloc _ _)))
                                           case restb6x19 =>
                                             clear hK K
                                             try simp only [Act.put, List.setIfInBounds_toArray, List.set_cons_zero, List.set_cons_succ]
                                             refine wpAnyH_done (by kernel_rfl) ?_ _
                                             go_wp2
                                             go_meet
                                             exact ⟨rfl, by first | exact hx5 | (exact hHeld.2.2)⟩
                                         case moreb6x19 =>
                                          exact AllReadyH.nil
                                     case moreb6x18 =>
                                      exact AllReadyH.nil
                                 case moreb6x17 =>
                                  exact AllReadyH.nil
                             case moreb6x16 =>
                              exact AllReadyH.nil
                         case moreb6x15 =>
                          exact AllReadyH.nil
                    case moreb6x5 =>
                     refine AllReadyH.cons (o := _) rfl (fun K hK => ?stb6x20) ?moreb6x20
                     case stb6x20 =>
                       go_simp
                       go_at_call 41
                       (with_reducible refine (HT1.out _ ?_).mono ?_)
                       ((first | with_reducible exact ext_drew _ | with_reducible exact ext_trans (ext_alloc _ _) (ext_drew _) | with_reducible exact ext_trans (ext_drew _) (ext_alloc _ _)))
                       rintro e w5 ⟨rfl, hb5⟩
                       have hx5 : Below (World.heap W0).size W0 w5 := first_belowI hb5 (by (first | with_reducible exact ext_drew _ | with_reducible exact ext_trans (ext_alloc _ _) (ext_drew _) | with_reducible exact ext_trans (ext_drew _) (ext_alloc _ _)))
                       refine hK.out _ _ ?hSb6x20 (fun hHeld => ?restb6x20)
                       case hSb6x20 => ((try dsimp only); first | with_reducible exact hHeld | with_reducible exact HSK.out _ (ext_drew _) | with_reducible exact HSK.out _ (ext_trans (ext_alloc _ _) (ext_drew _)) | with_reducible exact HSK.out _ (ext_trans (ext_drew _) (ext_alloc _ _)) | with_reducible exact HSK.out _ hx5 | with_reducible exact HSK.out _ (ext_trans hx5 (ext_alloc _ _)))
                       case restb6x20 =>
                         clear hK K
                         try simp only [Act.put, List.setIfInBounds_toArray, List.set_cons_zero, List.set_cons_succ]
                         refine wpAnyH_ready (rs := [0]) (by kernel_rfl) (by simp) ?_
                         refine AllReadyH.cons (o := _) rfl (fun K hK => ?stb6x21) ?moreb6x21
                         case stb6x21 =>
                           go_simp
                           refine hK.out _ _ ?hSb6x21 (fun hHeld => ?restb6x21)
                           case hSb6x21 => ((try dsimp only); first | with_reducible exact hHeld | with_reducible exact HSK.out _ (ext_drew _) | with_reducible exact HSK.out _ (ext_trans (ext_alloc _ _) (ext_drew _)) | with_reducible exact HSK.out _ (ext_trans (ext_drew _) (ext_alloc _ _)) | with_reducible exact HSK.out _ hx5 | with_reducible exact HSK.out _ (ext_trans hx5 (ext_alloc _ _)))
                           case restb6x21 =>
                             clear hK K
                             try simp only [Act.put, List.setIfInBounds_toArray, List.set_cons_zero, List.set_cons_succ]
                             refine wpAnyH_ready (rs := [3]) (by kernel_rfl) (by simp) ?_
                             refine AllReadyH.cons (o := _) rfl (fun K hK => ?stb6x22) ?moreb6x22
                             case stb6x22 =>
                               go_simp
                               refine hK.out _ _ ?hSb6x22 (fun hHeld => ?restb6x22)
                               case hSb6x22 => ((try dsimp only); first | with_reducible exact hHeld | with_reducible exact HSK.out _ (ext_drew _) | with_reducible exact HSK.out _ (ext_trans (ext_alloc _ _) (ext_drew _)) | with_reducible exact HSK.out _ (ext_trans (ext_drew _) (ext_alloc _ _)) | with_reducible exact HSK.out _ hx5 | with_reducible exact HSK.out _ (ext_trans hx5 (ext_alloc _ _)))
                               case restb6x22 =>
                                 clear hK K
                                 try simp only [Act.put, List.setIfInBounds_toArray, List.set_cons_zero, List.set_cons_succ]
                                 refine wpAnyH_ready (rs := [4]) (by kernel_rfl) (by simp) ?_
                                 refine AllReadyH.cons (o := _) rfl (fun K hK => ?stb6x23) ?moreb6x23
                                 case stb6x23 =>
                                   go_simp
                                   refine hK.out _ _ ?hSb6x23 (fun hHeld => ?restb6x23)
                                   case hSb6x23 => ((try dsimp only); first | with_reducible exact hHeld | with_reducible exact HSK.out _ (ext_drew _) | with_reducible exact HSK.out _ (ext_trans (ext_alloc _ _) (ext_drew _)) | with_reducible exact HSK.out _ (ext_trans (ext_drew _) (ext_alloc _ _)) | with_reducible exact HSK.out _ hx5 | with_reducible exact HSK.out _ (ext_trans hx5 (ext_alloc _ _)))
                                   case restb6x23 =>
                                     clear hK K
                                     try simp only [Act.put, List.setIfInBounds_toArray, List.set_cons_zero, List.set_cons_succ]
                                     refine wpAnyH_ready (rs := [8]) (by kernel_rfl) (by simp) ?_
                                     refine AllReadyH.cons (o := _) rfl (fun K hK => ?stb6x24) ?moreb6x24
                                     case stb6x24 =>
                                       go_simp
                                       refine hK.out _ _ ?hSb6x24 (fun hHeld => ?restb6x24)
                                       case hSb6x24 => ((try dsimp only); first | with_reducible exact hHeld | with_reducible exact HSK.out _ (ext_drew _) | with_reducible exact HSK.out _ (ext_trans (ext_alloc _ _) (ext_drew _)) | with_reducible exact HSK.out _ (ext_trans (ext_drew _) (ext_alloc _ _)) | with_reducible exact HSK.out _ hx5 | with_reducible exact HSK.out _ (ext_trans hx5 (ext_alloc _ _)))
                                       case restb6x24 =>
                                         clear hK K
                                         try simp only [Act.put, List.setIfInBounds_toArray, List.set_cons_zero, List.set_cons_succ]
                                         refine wpAnyH_ready (rs := [9]) (by kernel_rfl) (by simp) ?_
                                         refine AllReadyH.cons (o := _) rfl (fun K hK => ?stb6x25) ?moreb6x25
                                         case stb6x25 =>
                                           go_simp
                                           refine hK.out _ _ ?hSb6x25 (fun hHeld => ?restb6x25)
                                           case hSb6x25 => ((try dsimp only); first | with_reducible exact hHeld | with_reducible exact HSK.out _ (ext_drew _) | with_reducible exact HSK.out _ (ext_trans (ext_alloc _ _) (ext_drew _)) | with_reducible exact HSK.out _ (ext_trans (ext_drew _) (ext_alloc _ _)) | with_reducible exact HSK.out _ hx5 | with_reducible exact HSK.out _ (ext_trans hx5 (ext_alloc _ _)))
                                           case restb6x25 =>
                                             clear hK K
                                             try simp only [Act.put, List.setIfInBounds_toArray, List.set_cons_zero, List.set_cons_succ]
                                             refine wpAnyH_done (by kernel_rfl) ?_ _
                                             go_wp2
                                             go_meet
                                             exact ⟨rfl, by first | exact hx5 | (exact hHeld.2.2)⟩
                                         case moreb6x25 =>
                                          exact AllReadyH.nil
                                     case moreb6x24 =>
                                      exact AllReadyH.nil
                                 case moreb6x23 =>
                                  exact AllReadyH.nil
                             case moreb6x22 =>
                              exact AllReadyH.nil
                         case moreb6x21 =>
                          exact AllReadyH.nil
                     case moreb6x20 =>
                      exact AllReadyH.nil
            · have HSK := Lib.hid (fun (w' : World) (hb : Below (World.heap W0).size W0 w') => (show World.cell? w' ⟨wr.heap.size, 0, none⟩ = some (.int .i64 7) ∧ World.cell? w' ⟨wr.heap.size, 1, none⟩ = some (.int .i64 (u : Int)) ∧ Below (World.heap W0).size W0 w' from ⟨(hb.cell (p := ⟨wr.heap.size, 0, none⟩) hyb).trans v0, (hb.cell (p := ⟨wr.heap.size, 1, none⟩) hyb).trans v1, hb⟩))
              refine wp_region_held_drew (S := (fun w' => World.cell? w' ⟨wr.heap.size, 0, none⟩ = some (.int .i64 7) ∧ World.cell? w' ⟨wr.heap.size, 1, none⟩ = some (.int .i64 (u : Int)) ∧ Below (World.heap W0).size W0 w')) (by kernel_rfl) ?hSb7x0 (fun hHeld => ?restb7x0)
              case hSb7x0 => ((try dsimp only); first | with_reducible exact hHeld | with_reducible exact HSK.out _ (ext_drew _) | with_reducible exact HSK.out _ (ext_trans (ext_alloc _ _) (ext_drew _)) | with_reducible exact HSK.out _ (ext_trans (ext_drew _) (ext_alloc _ _)) | with_reducible exact HSK.out _ hx5 | with_reducible exact HSK.out _ (ext_trans hx5 (ext_alloc _ _)))
              case restb7x0 =>
                refine wpAnyH_take (i := 1) (oi := _) (v := ?vb7x1) rfl (by kernel_rfl) (by kernel_rfl) (by kernel_rfl) (fun _ _ _ h => h) (Or.inl ⟨by rfl, ?hyb7x1⟩) (by assumption) ?restb7x1
                case hyb7x1 => ((intro w hSw; (try dsimp only at hSw); go_simp) <;> (with_reducible rfl))
                case restb7x1 =>
                 try simp only [Act.put, List.setIfInBounds_toArray, List.set_cons_zero, List.set_cons_succ]
                 refine wpAnyH_take (i := 2) (oi := _) (v := ?vb7x2) rfl (by kernel_rfl) (by kernel_rfl) (by kernel_rfl) (fun _ _ _ h => h) (Or.inl ⟨by rfl, ?hyb7x2⟩) (by assumption) ?restb7x2
                 case hyb7x2 => ((intro w hSw; (try dsimp only at hSw); go_simp) <;> (with_reducible rfl))
                 case restb7x2 =>
                  try simp only [Act.put, List.setIfInBounds_toArray, List.set_cons_zero, List.set_cons_succ]
                  refine wpAnyH_take (i := 5) (oi := _) (v := ?vb7x3) rfl (by kernel_rfl) (by kernel_rfl) (by kernel_rfl) (fun _ _ _ h => h) (Or.inl ⟨by rfl, ?hyb7x3⟩) (by assumption) ?restb7x3
                  case hyb7x3 => ((intro w hSw; (try dsimp only at hSw); go_simp) <;> (with_reducible rfl))
                  case restb7x3 =>
                   try simp only [Act.put, List.setIfInBounds_toArray, List.set_cons_zero, List.set_cons_succ]
                   refine wpAnyH_take (i := 6) (oi := _) (v := ?vb7x4) rfl (by kernel_rfl) (by kernel_rfl) (by kernel_rfl) (fun _ _ _ h => h) (Or.inl ⟨by rfl, ?hyb7x4⟩) (by assumption) ?restb7x4
                   case hyb7x4 => ((intro w hSw; (try dsimp only at hSw); go_simp) <;> (with_reducible rfl))
                   case restb7x4 =>
                    try simp only [Act.put, List.setIfInBounds_toArray, List.set_cons_zero, List.set_cons_succ]
                    refine wpAnyH_ready (rs := [0, 7]) (by kernel_rfl) (by simp) ?_
                    refine AllReadyH.cons (o := _) rfl (fun K hK => ?stb7x5) ?moreb7x5
                    case stb7x5 =>
                      go_simp
                      refine hK.out _ _ ?hSb7x5 (fun hHeld => ?restb7x5)
                      case hSb7x5 => ((try dsimp only); first | with_reducible exact hHeld | with_reducible exact HSK.out _ (ext_drew _) | with_reducible exact HSK.out _ (ext_trans (ext_alloc _ _) (ext_drew _)) | with_reducible exact HSK.out _ (ext_trans (ext_drew _) (ext_alloc _ _)) | with_reducible exact HSK.out _ hx5 | with_reducible exact HSK.out _ (ext_trans hx5 (ext_alloc _ _)))
                      case restb7x5 =>
                        clear hK K
                        try simp only [Act.put, List.setIfInBounds_toArray, List.set_cons_zero, List.set_cons_succ]
                        refine wpAnyH_ready (rs := [3, 7]) (by kernel_rfl) (by simp) ?_
                        refine AllReadyH.cons (o := _) rfl (fun K hK => ?stb7x6) ?moreb7x6
                        case stb7x6 =>
                          go_simp
                          refine hK.out _ _ ?hSb7x6 (fun hHeld => ?restb7x6)
                          case hSb7x6 => ((try dsimp only); first | with_reducible exact hHeld | with_reducible exact HSK.out _ (ext_drew _) | with_reducible exact HSK.out _ (ext_trans (ext_alloc _ _) (ext_drew _)) | with_reducible exact HSK.out _ (ext_trans (ext_drew _) (ext_alloc _ _)) | with_reducible exact HSK.out _ hx5 | with_reducible exact HSK.out _ (ext_trans hx5 (ext_alloc _ _)))
                          case restb7x6 =>
                            clear hK K
                            try simp only [Act.put, List.setIfInBounds_toArray, List.set_cons_zero, List.set_cons_succ]
                            refine wpAnyH_ready (rs := [4, 7]) (by kernel_rfl) (by simp) ?_
                            refine AllReadyH.cons (o := _) rfl (fun K hK => ?stb7x7) ?moreb7x7
                            case stb7x7 =>
                              go_simp
                              refine hK.out _ _ ?hSb7x7 (fun hHeld => ?restb7x7)
                              case hSb7x7 => ((try dsimp only); first | with_reducible exact hHeld | with_reducible exact HSK.out _ (ext_drew _) | with_reducible exact HSK.out _ (ext_trans (ext_alloc _ _) (ext_drew _)) | with_reducible exact HSK.out _ (ext_trans (ext_drew _) (ext_alloc _ _)) | with_reducible exact HSK.out _ hx5 | with_reducible exact HSK.out _ (ext_trans hx5 (ext_alloc _ _)))
                              case restb7x7 =>
                                clear hK K
                                try simp only [Act.put, List.setIfInBounds_toArray, List.set_cons_zero, List.set_cons_succ]
                                refine wpAnyH_ready (rs := [7]) (by kernel_rfl) (by simp) ?_
                                refine AllReadyH.cons (o := _) rfl (fun K hK => ?stb7x8) ?moreb7x8
                                case stb7x8 =>
                                  go_simp
                                  go_at_call 41
                                  (with_reducible refine (HT1.out _ ?_).mono ?_)
                                  ((first | with_reducible exact ext_drew _ | with_reducible exact ext_trans (ext_alloc _ _) (ext_drew _) | with_reducible exact ext_trans (ext_drew _) (ext_alloc _ _)))
                                  rintro e w5 ⟨rfl, hb5⟩
                                  have hx5 : Below (World.heap W0).size W0 w5 := first_belowI hb5 (by (first | with_reducible exact ext_drew _ | with_reducible exact ext_trans (ext_alloc _ _) (ext_drew _) | with_reducible exact ext_trans (ext_drew _) (ext_alloc _ _)))
                                  have hlc : World.cell? w5 ⟨(World.heap W0).size, 7, none⟩ = some (.string ⟨#[110, 119]⟩) := (hb5.cell (p := ⟨(World.heap W0).size, 7, none⟩) (by simp)).trans (by simp)
                                  refine hK.out _ _ ?hSb7x8 (fun hHeld => ?restb7x8)
                                  case hSb7x8 => ((try dsimp only); first | with_reducible exact hHeld | with_reducible exact HSK.out _ (ext_drew _) | with_reducible exact HSK.out _ (ext_trans (ext_alloc _ _) (ext_drew _)) | with_reducible exact HSK.out _ (ext_trans (ext_drew _) (ext_alloc _ _)) | with_reducible exact HSK.out _ hx5 | with_reducible exact HSK.out _ (ext_trans hx5 (ext_alloc _ _)))
                                  case restb7x8 =>
                                    clear hK K
                                    try simp only [Act.put, List.setIfInBounds_toArray, List.set_cons_zero, List.set_cons_succ]
                                    refine wpAnyH_ready (rs := [8]) (by kernel_rfl) (by simp) ?_
                                    refine AllReadyH.cons (o := _) rfl (fun K hK => ?stb7x9) ?moreb7x9
                                    case stb7x9 =>
                                      go_simp
                                      refine hK.out _ _ ?hSb7x9 (fun hHeld => ?restb7x9)
                                      case hSb7x9 => ((try dsimp only); first | with_reducible exact hHeld | with_reducible exact HSK.out _ (ext_drew _) | with_reducible exact HSK.out _ (ext_trans (ext_alloc _ _) (ext_drew _)) | with_reducible exact HSK.out _ (ext_trans (ext_drew _) (ext_alloc _ _)) | with_reducible exact HSK.out _ hx5 | with_reducible exact HSK.out _ (ext_trans hx5 (ext_alloc _ _)))
                                      case restb7x9 =>
                                        clear hK K
                                        try simp only [Act.put, List.setIfInBounds_toArray, List.set_cons_zero, List.set_cons_succ]
                                        refine wpAnyH_ready (rs := [9]) (by kernel_rfl) (by simp) ?_
                                        refine AllReadyH.cons (o := _) rfl (fun K hK => ?stb7x10) ?moreb7x10
                                        case stb7x10 =>
                                          go_simp
                                          refine hK.out _ _ ?hSb7x10 (fun hHeld => ?restb7x10)
                                          case hSb7x10 => ((try dsimp only); first | with_reducible exact hHeld | with_reducible exact HSK.out _ (ext_drew _) | with_reducible exact HSK.out _ (ext_trans (ext_alloc _ _) (ext_drew _)) | with_reducible exact HSK.out _ (ext_trans (ext_drew _) (ext_alloc _ _)) | with_reducible exact HSK.out _ hx5 | with_reducible exact HSK.out _ (ext_trans hx5 (ext_alloc _ _)))
                                          case restb7x10 =>
                                            clear hK K
                                            try simp only [Act.put, List.setIfInBounds_toArray, List.set_cons_zero, List.set_cons_succ]
                                            refine wpAnyH_done (by kernel_rfl) ?_ _
                                            go_wp2
                                            go_meet
                                            exact ⟨rfl, by first | exact hx5 | (exact hHeld.2.2)⟩
                                        case moreb7x10 =>
                                         exact AllReadyH.nil
                                    case moreb7x9 =>
                                     exact AllReadyH.nil
                                case moreb7x8 =>
                                 exact AllReadyH.nil
                            case moreb7x7 =>
                             refine AllReadyH.cons (o := _) rfl (fun K hK => ?stb7x11) ?moreb7x11
                             case stb7x11 =>
                               go_simp
                               go_at_call 41
                               (with_reducible refine (HT1.out _ ?_).mono ?_)
                               ((first | with_reducible exact ext_drew _ | with_reducible exact ext_trans (ext_alloc _ _) (ext_drew _) | with_reducible exact ext_trans (ext_drew _) (ext_alloc _ _)))
                               rintro e w5 ⟨rfl, hb5⟩
                               have hx5 : Below (World.heap W0).size W0 w5 := first_belowI hb5 (by (first | with_reducible exact ext_drew _ | with_reducible exact ext_trans (ext_alloc _ _) (ext_drew _) | with_reducible exact ext_trans (ext_drew _) (ext_alloc _ _)))
                               have hlc : World.cell? w5 ⟨(World.heap W0).size, 7, none⟩ = some (.string ⟨#[110, 119]⟩) := (hb5.cell (p := ⟨(World.heap W0).size, 7, none⟩) (by simp)).trans (by simp)
                               refine hK.out _ _ ?hSb7x11 (fun hHeld => ?restb7x11)
                               case hSb7x11 => ((try dsimp only); first | with_reducible exact hHeld | with_reducible exact HSK.out _ (ext_drew _) | with_reducible exact HSK.out _ (ext_trans (ext_alloc _ _) (ext_drew _)) | with_reducible exact HSK.out _ (ext_trans (ext_drew _) (ext_alloc _ _)) | with_reducible exact HSK.out _ hx5 | with_reducible exact HSK.out _ (ext_trans hx5 (ext_alloc _ _)))
                               case restb7x11 =>
                                 clear hK K
                                 try simp only [Act.put, List.setIfInBounds_toArray, List.set_cons_zero, List.set_cons_succ]
                                 refine wpAnyH_ready (rs := [4]) (by kernel_rfl) (by simp) ?_
                                 refine AllReadyH.cons (o := _) rfl (fun K hK => ?stb7x12) ?moreb7x12
                                 case stb7x12 =>
                                   go_simp
                                   refine hK.out _ _ ?hSb7x12 (fun hHeld => ?restb7x12)
                                   case hSb7x12 => ((try dsimp only); first | with_reducible exact hHeld | with_reducible exact HSK.out _ (ext_drew _) | with_reducible exact HSK.out _ (ext_trans (ext_alloc _ _) (ext_drew _)) | with_reducible exact HSK.out _ (ext_trans (ext_drew _) (ext_alloc _ _)) | with_reducible exact HSK.out _ hx5 | with_reducible exact HSK.out _ (ext_trans hx5 (ext_alloc _ _)))
                                   case restb7x12 =>
                                     clear hK K
                                     try simp only [Act.put, List.setIfInBounds_toArray, List.set_cons_zero, List.set_cons_succ]
                                     refine wpAnyH_ready (rs := [8]) (by kernel_rfl) (by simp) ?_
                                     refine AllReadyH.cons (o := _) rfl (fun K hK => ?stb7x13) ?moreb7x13
                                     case stb7x13 =>
                                       go_simp
                                       refine hK.out _ _ ?hSb7x13 (fun hHeld => ?restb7x13)
                                       case hSb7x13 => ((try dsimp only); first | with_reducible exact hHeld | with_reducible exact HSK.out _ (ext_drew _) | with_reducible exact HSK.out _ (ext_trans (ext_alloc _ _) (ext_drew _)) | with_reducible exact HSK.out _ (ext_trans (ext_drew _) (ext_alloc _ _)) | with_reducible exact HSK.out _ hx5 | with_reducible exact HSK.out _ (ext_trans hx5 (ext_alloc _ _)))
                                       case restb7x13 =>
                                         clear hK K
                                         try simp only [Act.put, List.setIfInBounds_toArray, List.set_cons_zero, List.set_cons_succ]
                                         refine wpAnyH_ready (rs := [9]) (by kernel_rfl) (by simp) ?_
                                         refine AllReadyH.cons (o := _) rfl (fun K hK => ?stb7x14) ?moreb7x14
                                         case stb7x14 =>
                                           go_simp
                                           refine hK.out _ _ ?hSb7x14 (fun hHeld => ?restb7x14)
                                           case hSb7x14 => ((try dsimp only); first | with_reducible exact hHeld | with_reducible exact HSK.out _ (ext_drew _) | with_reducible exact HSK.out _ (ext_trans (ext_alloc _ _) (ext_drew _)) | with_reducible exact HSK.out _ (ext_trans (ext_drew _) (ext_alloc _ _)) | with_reducible exact HSK.out _ hx5 | with_reducible exact HSK.out _ (ext_trans hx5 (ext_alloc _ _)))
                                           case restb7x14 =>
                                             clear hK K
                                             try simp only [Act.put, List.setIfInBounds_toArray, List.set_cons_zero, List.set_cons_succ]
                                             refine wpAnyH_done (by kernel_rfl) ?_ _
                                             go_wp2
                                             go_meet
                                             exact ⟨rfl, by first | exact hx5 | (exact hHeld.2.2)⟩
                                         case moreb7x14 =>
                                          exact AllReadyH.nil
                                     case moreb7x13 =>
                                      exact AllReadyH.nil
                                 case moreb7x12 =>
                                  exact AllReadyH.nil
                             case moreb7x11 =>
                              exact AllReadyH.nil
                        case moreb7x6 =>
                         refine AllReadyH.cons (o := _) rfl (fun K hK => ?stb7x15) ?moreb7x15
                         case stb7x15 =>
                           go_simp
                           go_at_call 41
                           (with_reducible refine (HT1.out _ ?_).mono ?_)
                           ((first | with_reducible exact ext_drew _ | with_reducible exact ext_trans (ext_alloc _ _) (ext_drew _) | with_reducible exact ext_trans (ext_drew _) (ext_alloc _ _)))
                           rintro e w5 ⟨rfl, hb5⟩
                           have hx5 : Below (World.heap W0).size W0 w5 := first_belowI hb5 (by (first | with_reducible exact ext_drew _ | with_reducible exact ext_trans (ext_alloc _ _) (ext_drew _) | with_reducible exact ext_trans (ext_drew _) (ext_alloc _ _)))
                           have hlc : World.cell? w5 ⟨(World.heap W0).size, 7, none⟩ = some (.string ⟨#[110, 119]⟩) := (hb5.cell (p := ⟨(World.heap W0).size, 7, none⟩) (by simp)).trans (by simp)
                           refine hK.out _ _ ?hSb7x15 (fun hHeld => ?restb7x15)
                           case hSb7x15 => ((try dsimp only); first | with_reducible exact hHeld | with_reducible exact HSK.out _ (ext_drew _) | with_reducible exact HSK.out _ (ext_trans (ext_alloc _ _) (ext_drew _)) | with_reducible exact HSK.out _ (ext_trans (ext_drew _) (ext_alloc _ _)) | with_reducible exact HSK.out _ hx5 | with_reducible exact HSK.out _ (ext_trans hx5 (ext_alloc _ _)))
                           case restb7x15 =>
                             clear hK K
                             try simp only [Act.put, List.setIfInBounds_toArray, List.set_cons_zero, List.set_cons_succ]
                             refine wpAnyH_ready (rs := [3]) (by kernel_rfl) (by simp) ?_
                             refine AllReadyH.cons (o := _) rfl (fun K hK => ?stb7x16) ?moreb7x16
                             case stb7x16 =>
                               go_simp
                               refine hK.out _ _ ?hSb7x16 (fun hHeld => ?restb7x16)
                               case hSb7x16 => ((try dsimp only); first | with_reducible exact hHeld | with_reducible exact HSK.out _ (ext_drew _) | with_reducible exact HSK.out _ (ext_trans (ext_alloc _ _) (ext_drew _)) | with_reducible exact HSK.out _ (ext_trans (ext_drew _) (ext_alloc _ _)) | with_reducible exact HSK.out _ hx5 | with_reducible exact HSK.out _ (ext_trans hx5 (ext_alloc _ _)))
                               case restb7x16 =>
                                 clear hK K
                                 try simp only [Act.put, List.setIfInBounds_toArray, List.set_cons_zero, List.set_cons_succ]
                                 refine wpAnyH_ready (rs := [4]) (by kernel_rfl) (by simp) ?_
                                 refine AllReadyH.cons (o := _) rfl (fun K hK => ?stb7x17) ?moreb7x17
                                 case stb7x17 =>
                                   go_simp
                                   refine hK.out _ _ ?hSb7x17 (fun hHeld => ?restb7x17)
                                   case hSb7x17 => ((try dsimp only); first | with_reducible exact hHeld | with_reducible exact HSK.out _ (ext_drew _) | with_reducible exact HSK.out _ (ext_trans (ext_alloc _ _) (ext_drew _)) | with_reducible exact HSK.out _ (ext_trans (ext_drew _) (ext_alloc _ _)) | with_reducible exact HSK.out _ hx5 | with_reducible exact HSK.out _ (ext_trans hx5 (ext_alloc _ _)))
                                   case restb7x17 =>
                                     clear hK K
                                     try simp only [Act.put, List.setIfInBounds_toArray, List.set_cons_zero, List.set_cons_succ]
                                     refine wpAnyH_ready (rs := [8]) (by kernel_rfl) (by simp) ?_
                                     refine AllReadyH.cons (o := _) rfl (fun K hK => ?stb7x18) ?moreb7x18
                                     case stb7x18 =>
                                       go_simp
                                       refine hK.out _ _ ?hSb7x18 (fun hHeld => ?restb7x18)
                                       case hSb7x18 => ((try dsimp only); first | with_reducible exact hHeld | with_reducible exact HSK.out _ (ext_drew _) | with_reducible exact HSK.out _ (ext_trans (ext_alloc _ _) (ext_drew _)) | with_reducible exact HSK.out _ (ext_trans (ext_drew _) (ext_alloc _ _)) | with_reducible exact HSK.out _ hx5 | with_reducible exact HSK.out _ (ext_trans hx5 (ext_alloc _ _)))
                                       case restb7x18 =>
                                         clear hK K
                                         try simp only [Act.put, List.setIfInBounds_toArray, List.set_cons_zero, List.set_cons_succ]
                                         refine wpAnyH_ready (rs := [9]) (by kernel_rfl) (by simp) ?_
                                         refine AllReadyH.cons (o := _) rfl (fun K hK => ?stb7x19) ?moreb7x19
                                         case stb7x19 =>
                                           go_simp
                                           refine hK.out _ _ ?hSb7x19 (fun hHeld => ?restb7x19)
                                           case hSb7x19 => ((try dsimp only); first | with_reducible exact hHeld | with_reducible exact HSK.out _ (ext_drew _) | with_reducible exact HSK.out _ (ext_trans (ext_alloc _ _) (ext_drew _)) | with_reducible exact HSK.out _ (ext_trans (ext_drew _) (ext_alloc _ _)) | with_reducible exact HSK.out _ hx5 | with_reducible exact HSK.out _ (ext_trans hx5 (ext_alloc _ _)))
                                           case restb7x19 =>
                                             clear hK K
                                             try simp only [Act.put, List.setIfInBounds_toArray, List.set_cons_zero, List.set_cons_succ]
                                             refine wpAnyH_done (by kernel_rfl) ?_ _
                                             go_wp2
                                             go_meet
                                             exact ⟨rfl, by first | exact hx5 | (exact hHeld.2.2)⟩
                                         case moreb7x19 =>
                                          exact AllReadyH.nil
                                     case moreb7x18 =>
                                      exact AllReadyH.nil
                                 case moreb7x17 =>
                                  exact AllReadyH.nil
                             case moreb7x16 =>
                              exact AllReadyH.nil
                         case moreb7x15 =>
                          exact AllReadyH.nil
                    case moreb7x5 =>
                     refine AllReadyH.cons (o := _) rfl (fun K hK => ?stb7x20) ?moreb7x20
                     case stb7x20 =>
                       go_simp
                       go_at_call 41
                       (with_reducible refine (HT1.out _ ?_).mono ?_)
                       ((first | with_reducible exact ext_drew _ | with_reducible exact ext_trans (ext_alloc _ _) (ext_drew _) | with_reducible exact ext_trans (ext_drew _) (ext_alloc _ _)))
                       rintro e w5 ⟨rfl, hb5⟩
                       have hx5 : Below (World.heap W0).size W0 w5 := first_belowI hb5 (by (first | with_reducible exact ext_drew _ | with_reducible exact ext_trans (ext_alloc _ _) (ext_drew _) | with_reducible exact ext_trans (ext_drew _) (ext_alloc _ _)))
                       refine hK.out _ _ ?hSb7x20 (fun hHeld => ?restb7x20)
                       case hSb7x20 => ((try dsimp only); first | with_reducible exact hHeld | with_reducible exact HSK.out _ (ext_drew _) | with_reducible exact HSK.out _ (ext_trans (ext_alloc _ _) (ext_drew _)) | with_reducible exact HSK.out _ (ext_trans (ext_drew _) (ext_alloc _ _)) | with_reducible exact HSK.out _ hx5 | with_reducible exact HSK.out _ (ext_trans hx5 (ext_alloc _ _)))
                       case restb7x20 =>
                         clear hK K
                         try simp only [Act.put, List.setIfInBounds_toArray, List.set_cons_zero, List.set_cons_succ]
                         refine wpAnyH_ready (rs := [0]) (by kernel_rfl) (by simp) ?_
                         refine AllReadyH.cons (o := _) rfl (fun K hK => ?stb7x21) ?moreb7x21
                         case stb7x21 =>
                           go_simp
                           refine hK.out _ _ ?hSb7x21 (fun hHeld => ?restb7x21)
                           case hSb7x21 => ((try dsimp only); first | with_reducible exact hHeld | with_reducible exact HSK.out _ (ext_drew _) | with_reducible exact HSK.out _ (ext_trans (ext_alloc _ _) (ext_drew _)) | with_reducible exact HSK.out _ (ext_trans (ext_drew _) (ext_alloc _ _)) | with_reducible exact HSK.out _ hx5 | with_reducible exact HSK.out _ (ext_trans hx5 (ext_alloc _ _)))
                           case restb7x21 =>
                             clear hK K
                             try simp only [Act.put, List.setIfInBounds_toArray, List.set_cons_zero, List.set_cons_succ]
                             refine wpAnyH_ready (rs := [3]) (by kernel_rfl) (by simp) ?_
                             refine AllReadyH.cons (o := _) rfl (fun K hK => ?stb7x22) ?moreb7x22
                             case stb7x22 =>
                               go_simp
                               refine hK.out _ _ ?hSb7x22 (fun hHeld => ?restb7x22)
                               case hSb7x22 => ((try dsimp only); first | with_reducible exact hHeld | with_reducible exact HSK.out _ (ext_drew _) | with_reducible exact HSK.out _ (ext_trans (ext_alloc _ _) (ext_drew _)) | with_reducible exact HSK.out _ (ext_trans (ext_drew _) (ext_alloc _ _)) | with_reducible exact HSK.out _ hx5 | with_reducible exact HSK.out _ (ext_trans hx5 (ext_alloc _ _)))
                               case restb7x22 =>
                                 clear hK K
                                 try simp only [Act.put, List.setIfInBounds_toArray, List.set_cons_zero, List.set_cons_succ]
                                 refine wpAnyH_ready (rs := [4]) (by kernel_rfl) (by simp) ?_
                                 refine AllReadyH.cons (o := _) rfl (fun K hK => ?stb7x23) ?moreb7x23
                                 case stb7x23 =>
                                   go_simp
                                   refine hK.out _ _ ?hSb7x23 (fun hHeld => ?restb7x23)
                                   case hSb7x23 => ((try dsimp only); first | with_reducible exact hHeld | with_reducible exact HSK.out _ (ext_drew _) | with_reducible exact HSK.out _ (ext_trans (ext_alloc _ _) (ext_drew _)) | with_reducible exact HSK.out _ (ext_trans (ext_drew _) (ext_alloc _ _)) | with_reducible exact HSK.out _ hx5 | with_reducible exact HSK.out _ (ext_trans hx5 (ext_alloc _ _)))
                                   case restb7x23 =>
                                     clear hK K
                                     try simp only [Act.put, List.setIfInBounds_toArray, List.set_cons_zero, List.set_cons_succ]
                                     refine wpAnyH_ready (rs := [8]) (by kernel_rfl) (by simp) ?_
                                     refine AllReadyH.cons (o := _) rfl (fun K hK => ?stb7x24) ?moreb7x24
                                     case stb7x24 =>
                                       go_simp
                                       refine hK.out _ _ ?hSb7x24 (fun hHeld => ?restb7x24)
                                       case hSb7x24 => ((try dsimp only); first | with_reducible exact hHeld | with_reducible exact HSK.out _ (ext_drew _) | with_reducible exact HSK.out _ (ext_trans (ext_alloc _ _) (ext_drew _)) | with_reducible exact HSK.out _ (ext_trans (ext_drew _) (ext_alloc _ _)) | with_reducible exact HSK.out _ hx5 | with_reducible exact HSK.out _ (ext_trans hx5 (ext_alloc _ _)))
                                       case restb7x24 =>
                                         clear hK K
                                         try simp only [Act.put, List.setIfInBounds_toArray, List.set_cons_zero, List.set_cons_succ]
                                         refine wpAnyH_ready (rs := [9]) (by kernel_rfl) (by simp) ?_
                                         refine AllReadyH.cons (o := _) rfl (fun K hK => ?stb7x25) ?moreb7x25
                                         case stb7x25 =>
                                           go_simp
                                           refine hK.out _ _ ?hSb7x25 (fun hHeld => ?restb7x25)
                                           case hSb7x25 => ((try dsimp only); first | with_reducible exact hHeld | with_reducible exact HSK.out _ (ext_drew _) | with_reducible exact HSK.out _ (ext_trans (ext_alloc _ _) (ext_drew _)) | with_reducible exact HSK.out _ (ext_trans (ext_drew _) (ext_alloc _ _)) | with_reducible exact HSK.out _ hx5 | with_reducible exact HSK.out _ (ext_trans hx5 (ext_alloc _ _)))
                                           case restb7x25 =>
                                             clear hK K
                                             try simp only [Act.put, List.setIfInBounds_toArray, List.set_cons_zero, List.set_cons_succ]
                                             refine wpAnyH_done (by kernel_rfl) ?_ _
                                             go_wp2
                                             go_meet
                                             exact ⟨rfl, by first | exact hx5 | (exact hHeld.2.2)⟩
                                         case moreb7x25 =>
                                          exact AllReadyH.nil
                                     case moreb7x24 =>
                                      exact AllReadyH.nil
                                 case moreb7x23 =>
                                  exact AllReadyH.nil
                             case moreb7x22 =>
                              exact AllReadyH.nil
                         case moreb7x21 =>
                          exact AllReadyH.nil
                     case moreb7x20 =>
                      exact AllReadyH.nil
          case rest =>
            obtain ⟨rfl, hbc⟩ := hcut
            have r2 := (hbc.cell (p := ⟨wr.heap.size, 2, none⟩) hyb).trans v2
            have hyc := Nat.lt_of_lt_of_le hyb hbc.size
            have hxc := ext_trans hbw hbc
            have hoc := how.ext hbc
            obtain ⟨T, hT⟩ : ∃ z, z = wayB wy ++ dig u := ⟨_, rfl⟩
            have hTs : T.size ≤ 1002 := by rw [hT, ByteArray.size_append]; omega
            rw [← hT] at HLT ⊢
            clear hT v0 v1 v2 how
            rcases Int.lt_trichotomy cl 0 with hc | hc | hc
            · have hc1 : ¬ 0 < cl := by omega
              have hc2 : (cl != 0) = true := by simp; omega
              have HL := Lib.hid (show legT ⟨wy, (u : Int), cl⟩ = T ++ digI cl from by rw [HLT.out, if_neg hc1, if_pos hc])
              go_wp2_with fail
              ((with_reducible refine (HT2.out _ hbc).mono ?_); rintro e w5 ⟨rfl, hb5⟩)
              have hx5 := ext_trans hxc hb5
              have ho5 := hoc.ext hb5
              go_wp2_with (at_builtin; refine wpList_append_str (y := T ++ digI cl) rfl _ _ _ rfl w.heap.size i0 _ 16 Tryd.underlying62 hi hy0 hy1 hy2 rfl _ _ rfl rfl ho5 ?_ (by decide) ?_ ?_; omega; exact hx5.size; intro v3 w3 hown3 hb3)
              go_roundw
              case rel => exact ⟨k + 1, by omega, by go_num, by rw [HT.out, txts_snoc, HL.out]; exact hown3, hx5.trans hb3⟩
              case measure => simp [intOf] <;> omega
            · subst hc
              have HL := Lib.hid (show legT ⟨wy, (u : Int), 0⟩ = T from by rw [HLT.out, if_neg (by omega), if_neg (by omega)])
              go_wp2_with (at_builtin; refine wpList_append_str (y := T) rfl _ _ _ rfl w.heap.size i0 _ 16 Tryd.underlying62 hi hy0 hy1 hy2 rfl _ _ rfl rfl hoc ?_ (by decide) ?_ ?_; omega; exact hxc.size; intro v3 w3 hown3 hb3)
              go_roundw
              case rel => exact ⟨k + 1, by omega, by go_num, by rw [HT.out, txts_snoc, HL.out]; exact hown3, hxc.trans hb3⟩
              case measure => simp [intOf] <;> omega
            · have hc2 : (cl != 0) = true := by simp; omega
              have HL := Lib.hid (show legT ⟨wy, (u : Int), cl⟩ = T ++ ⟨#[43]⟩ ++ digI cl from by rw [HLT.out, if_pos hc])
              go_wp2_with fail
              ((with_reducible refine (HT2.out _ hbc).mono ?_); rintro e w5 ⟨rfl, hb5⟩)
              have hx5 := ext_trans hxc hb5
              have ho5 := hoc.ext hb5
              go_wp2_with (at_builtin; refine wpList_append_str (y := T ++ (⟨#[43]⟩ : ByteArray) ++ digI cl) rfl _ _ _ rfl w.heap.size i0 _ 16 Tryd.underlying62 hi hy0 hy1 hy2 rfl _ _ rfl rfl ho5 ?_ (by decide) ?_ ?_; omega; exact hx5.size; intro v3 w3 hown3 hb3)
              go_roundw
              case rel => exact ⟨k + 1, by omega, by go_num, by rw [HT.out, txts_snoc, HL.out]; exact hown3, hx5.trans hb3⟩
              case measure => simp [intOf] <;> omega
        · have hkn : k = n := by omega
          subst hkn
          rw [take_all (by rw [← hN.out]; exact Nat.le_refl _)] at hown
          obtain ⟨g, cap, hv, hg, hcp, hcl⟩ := hown.form (fun e => by rw [e] at hjl; simp at hjl; omega)
          have hj := HJN.out g cap wr hcl hg hcp
          rw [hjl] at hv hj
          subst hv
          have HJ := Lib.hid (show Calls Tryd.prog 42 #[.slice (some ⟨g, 0, none⟩) k cap, .string ⟨#[32]⟩] wr fun e w' => e = .returned (.string (joinS (txts xs))) ∧ Below wr.heap.size wr w' from hj)
          obtain ⟨S, hSS⟩ : ∃ z, z = joinS (txts xs) := ⟨_, rfl⟩
          rw [← hSS] at HJ
          have HSS := Lib.hid hSS
          clear hSS hcl hj hown
          go_wp2_with fail
          ((with_reducible refine (HJ.out).mono ?_); rintro e w5 ⟨rfl, hb5⟩)
          go_wp2
          refine bodyPost_ret (v := .tuple #[.string S, .bool true]) (by simp [results, Tryd.results20, go_sem]) rfl ⟨by rw [rtT_cons HNE.out, ← HSS.out], ext_trans hbr hb5⟩
  · rw [tb_f hR] at hgr
    rw [selt_f hR, tb_f hR]
    have HG := Lib.hid hgr
    generalize xs.length = n at *
    clear hgr hR
    go_enter Tryd.func20, Tryd.ntmps20
    go_wp2_with fail
    ((with_reducible refine (HG.out).mono ?_); rintro e w1 ⟨rfl, hb1⟩)
    go_wp2
    refine bodyPost_ret (v := .tuple #[.string ⟨#[]⟩, .bool false]) (by simp [results, Tryd.results20, go_sem]) rfl ⟨rfl, hb1⟩
end Go.Proofs.YtlagfeccdcjimaaDoor
