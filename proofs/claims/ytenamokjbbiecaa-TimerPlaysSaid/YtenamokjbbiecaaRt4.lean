/- The document's timer: Tick. -/
import Derived.Test.YtenamokjbbiecaaProg
import Derived.Test.YtenamokjbbiecaaBase
import Derived.Test.YtenamokjbbiecaaHeldX
import Derived.Test.YtenamokjbbiecaaHeldZ
import Derived.Test.YtenamokjbbiecaaApp
import Derived.Test.YtenamokjbbiecaaExt0
import Derived.Test.YtenamokjbbiecaaChg
import Derived.Test.YtenamokjbbiecaaMapR
import Derived.Test.YtenamokjbbiecaaMapF
import Derived.Test.YtenamokjbbiecaaTimP
import Derived.Test.YtenamokjbbiecaaTim
import Derived.Test.YtenamokjbbiecaaRt
import Derived.Test.YtenamokjbbiecaaRt2
import Derived.Deep.Cut
import Derived.Lib.Hide
import Derived.OwnWalk
import Derived.Maps.AppendAt
import Derived.Deep.DeepMust
namespace Go.Proofs.Ytenamokjbbiecaa
open Go.RowKit
attribute [local go_sem] setCell_twice ByteArray.toList_eq str_list Ext.alloc Ext.drew
set_option linter.unusedSimpArgs false
set_option maxRecDepth 100000
set_option maxHeartbeats 6400000
attribute [local irreducible] Calls

section
variable {w : World} {base n c g k : Nat} {e : TypeId} {xs : List Int}
theorem own_n (h : OwnL encI w base e 1 (.slice (some ⟨g, 0, none⟩) n c) xs) : n = xs.length := by
  obtain ⟨A, c', e1, _⟩ := OwnL.form h
  exact (Value.slice.inj e1).2.1
theorem own_cell (h : OwnL encI w base e 1 (.slice (some ⟨g, 0, none⟩) n c) xs) (hk : k < xs.length) : w.cell? ⟨g, k, none⟩ = some (.int .i64 xs[k]) ∧ w.frozen? ⟨g, k, none⟩ = false := by
  obtain rfl := own_n h
  unfold OwnL at h
  refine ⟨?_, World.ownsRow.frozenAt h k⟩
  have := World.ownsRow.cellAt h k (by omega)
  rw [this, encI_flat]
  simp [hk]
theorem own_put (h : OwnL encI w base e 1 (.slice (some ⟨g, 0, none⟩) n c) xs) (x : Int) : OwnL encI (w.setCell ⟨g, k, none⟩ (.int .i64 x)) base e 1 (.slice (some ⟨g, 0, none⟩) n c) (xs.set k x) := by
  obtain rfl := own_n h
  unfold OwnL at h ⊢
  have := (World.ownsRow.stored h k (.int .i64 x)).1
  rw [encI_flat] at this
  rw [encI_flat, List.length_set, List.map_set]
  exact this
theorem own_head {v : Value} (h : OwnL encI w base e 1 v xs) (hk : 0 < xs.length) : ∃ g c, v = .slice (some ⟨g, 0, none⟩) xs.length c ∧ base ≤ g ∧ g < w.heap.size := by
  rcases h.2 with ⟨_, hn⟩ | ⟨g, cap, cur, hv, hg, hh, _⟩
  · rw [List.length_eq_zero_iff.1 hn] at hk; simp at hk
  · exact ⟨g, cap, hv, hg, (Array.getElem?_eq_some_iff.1 hh).1⟩
end
theorem Agr2.of_sort {l : List (Int × Int)} (h : SortP l) : ∃ f, Agr2 f l := by
  classical
  refine ⟨fun x => if hx : ∃ m, (x, m) ∈ l then some hx.choose else none, h, fun x m => ?_⟩
  by_cases hx : ∃ m, (x, m) ∈ l
  · simp only [dif_pos hx]
    constructor
    · intro e
      injection e with e
      rw [← e]
      exact hx.choose_spec
    · intro hm
      rw [h.inj hm hx.choose_spec]
  · simp only [dif_neg hx]
    exact ⟨fun e => (by cases e), fun hm => absurd ⟨m, hm⟩ hx⟩
/-- so far gone by -/
def decP (l : List (Int × Int)) (k : Nat) : List Int := (l.take k).map (fun p => p.2 - 1) ++ (l.drop k).map (·.2)
theorem decP_len (l : List (Int × Int)) (k : Nat) (hk : k ≤ l.length) : (decP l k).length = l.length := by
  unfold decP
  simp
  omega
theorem decP_at (l : List (Int × Int)) (k : Nat) (hk : k < l.length) (h : k < (decP l k).length) : (decP l k)[k] = (l[k]).2 := by
  have : (decP l k)[k]? = some (l[k]).2 := by
    unfold decP
    rw [List.getElem?_append_right (by rw [List.length_map, List.length_take]; omega), List.length_map, List.length_take, Nat.min_eq_left (by omega), Nat.sub_self, List.getElem?_map, List.getElem?_drop]
    simp [hk]
  rw [List.getElem?_eq_getElem h] at this
  exact Option.some.inj this
theorem decP_step (l : List (Int × Int)) (k : Nat) (hk : k < l.length) : (decP l k).set k ((l[k]).2 - 1) = decP l (k + 1) := by
  unfold decP
  rw [List.set_append_right _ _ (by simp; omega), List.take_succ_eq_append_getElem hk, List.map_append, List.append_assoc]
  congr 1
  rw [List.length_map, List.length_take, Nat.min_eq_left (by omega), Nat.sub_self, ← List.getElem_cons_drop hk, List.map_cons, List.set_cons_zero, List.map_cons, List.map_nil, List.cons_append, List.nil_append]
theorem out_step (l : List (Int × Int)) (k : Nat) (hk : k < l.length) : outL (l.take (k + 1)) = if (l[k]).2 = 0 then outL (l.take k) ++ [(l[k]).1] else outL (l.take k) := by
  unfold outL
  rw [List.take_succ_eq_append_getElem hk, List.filter_append, List.map_append]
  by_cases h : (l[k]).2 = 0
  · rw [if_pos h]
    simp [h]
  · rw [if_neg h]
    simp [h]
theorem out_len (l : List (Int × Int)) : (outL l).length ≤ l.length := by
  unfold outL
  rw [List.length_map]
  exact List.length_filter_le _ _
theorem tick22_any (tb base : Nat) (l : List (Int × Int)) (w : World) (h : RtAt w tb base l) (hs : SortP l) (hl : l.length < 100000) (hv : ∀ p ∈ l, 0 ≤ p.2 ∧ p.2 ≤ 1099511627776) :
    Calls Try.prog 25 #[.pointer (some ⟨tb, 0, none⟩)] w fun e w' => ∃ v, e = .returned v ∧ RowP w' w.heap.size v (outL l) ∧ RtAt w' tb base (tickL l) ∧ Chg (OfT w base [46, 2]) w w' := by
  have hr := h
  obtain ⟨h0, vi, vn, h1, h2, h3⟩ := h
  have hvi : ∀ k, vi.ownBlock = some k → k < w.heap.size := fun k hk => (OwnL.lt h2 k hk).2
  have hvn : ∀ k, vn.ownBlock = some k → k < w.heap.size ∧ base ≤ k := fun k hk => ⟨(OwnL.lt h3 k hk).2, (OwnL.lt h3 k hk).1⟩
  have hFn : ∀ k, vn.ownBlock = some k → OfT w base [46, 2] k := OwnL.ofT h3 (Nat.le_refl _) (by simp)
  have hsz0 : base ≤ w.heap.size := by have := h1.lt; omega
  obtain ⟨Ai, ci, rfl⟩ := OwnL.slice2 h2
  obtain ⟨An, cn, rfl⟩ := OwnL.slice2 h3
  rw [List.length_map, List.length_map] at h1
  rw [List.length_map] at hvi hvn hFn h2 h3
  have HVN := Lib.hid hvn
  have HFN := Lib.hid hFn
  have HVI := Lib.hid hvi
  clear hvn hFn hvi
  go_enter Try.func25, Try.ntmps25
  go_wp2_with (fail)
  go_loopw [3, 4] (fun v i wr => ∃ k : Nat, k ≤ l.length ∧ i = .int .i64 k ∧ RowP wr w.heap.size v (outL (l.take k)) ∧ Blk wr tb #[.slice Ai l.length ci, .slice An l.length cn] 46 ∧ RowP wr base (.slice Ai l.length ci) (l.map (·.1)) ∧ RowI wr base (.slice An l.length cn) (decP l k) ∧ Chg (OfT w base [46, 2]) w wr) (fun _ i _ => l.length - (intOf i).toNat)
  case atStart => exact ⟨0, Nat.zero_le _, rfl, OwnL.nil, h1, h2, by unfold decP; simpa using h3, Chg.refl _ _⟩
  case round =>
    obtain ⟨k, hk, rfl, hO, hB, hI, hN, hC⟩ := hrel
    have hc := hB.cell
    obtain ⟨Ao, co, rfl⟩ := OwnL.slice2 hO
    have hol := out_len (l.take k)
    rw [List.length_take] at hol
    have hsz := hC.size
    by_cases hlt : k < l.length
    · obtain ⟨gi, ci', e1, _, _⟩ := own_head hI (by rw [List.length_map]; omega)
      obtain ⟨rfl, -, rfl⟩ := Value.slice.inj e1
      obtain ⟨gn, cn', e2, hgn, _⟩ := own_head hN (by rw [decP_len l k hk]; omega)
      obtain ⟨rfl, -, rfl⟩ := Value.slice.inj e2
      have hci := own_cell hI (k := k) (by rw [List.length_map]; omega)
      have hcn := own_cell hN (k := k) (by rw [decP_len l k hk]; omega)
      rw [List.getElem_map] at hci
      rw [decP_at l k hlt] at hcn
      obtain ⟨hci1, _⟩ := hci
      obtain ⟨hcn1, hcn2⟩ := hcn
      have hb := hv _ (List.getElem_mem hlt)
      have HS := Lib.hid (decP_step l k hlt)
      have HO := Lib.hid (out_step l k hlt)
      generalize (l[k]).1 = x at hci1 HO
      generalize hm : (l[k]).2 = m at hcn1 hb HS HO
      have HM := Lib.hid hm
      clear hm
      have hwr : IntKind.i64.wrap (m - 1) = m - 1 := by rw [IntKind.wrap_i64]; omega
      clear e1 e2
      have hBn : gn ≠ tb := fun e => by
        obtain ⟨cs, hBB⟩ := OwnL.block hN (k := gn) rfl
        subst e
        have := (hBB.type hB).1
        revert this
        decide
      have hne : gn ≠ gi := fun e => by
        obtain ⟨cs, hBB⟩ := OwnL.block hN (k := gn) rfl
        obtain ⟨cs2, hBB2⟩ := OwnL.block hI (k := gi) rfl
        subst e
        have := (hBB.type hBB2).1
        revert this
        decide
      by_cases h0m : m = 0
      · subst h0m
        rw [if_pos rfl] at HO
        have HB := Lib.hid hb
        clear hb
        go_wp2_with (at_builtin; (refine wpList_push rfl _ _ 44 rfl w.heap.size 3 Try.underlying44 infoPI rfl (by decide) (by decide) encI (outL (l.take k)) _ rfl (OwnL.alloc hO _) x wr.heap.size #[.int .i64 x] 3 rfl (Blk.new _ _ _) rfl rfl (by simp [encI, Value.oneCell']) ?_ ?_ ?_; (· omega); (· simp; omega); (intro v2 w8 hown hg8 hloc _; obtain ⟨A2, c2, rfl⟩ := OwnL.slice2 hown; have hA8 := (Ext.refl wr).alloc (.cells #[.int .i64 x] 3); have hB8 := (hB.ext hA8).grown hg8 (own_ne_blk (OwnL.alloc hO _) (hB.ext hA8) (by decide)); have hc8 := hB8.cell; have hN8 := OwnL.grown (OwnL.below hN hA8.below) hg8 (fun j hj e => own_types hO hN (by decide) j e hj); have hcn8 := own_cell hN8 (k := k) (by rw [decP_len l k hk]; omega); rw [decP_at l k hlt, HM.out] at hcn8; obtain ⟨hcn81, hcn82⟩ := hcn8; clear hc hcn1 hcn2 hci1)))
        have hN2 := own_put hN8 (k := k) (0 - 1)
        have hoi : ∀ j, (Value.slice Ao (outL (l.take k)).length co).ownBlock = some j → (Value.slice (some ⟨gi, 0, none⟩) l.length ci).ownBlock ≠ some j := fun j hj e => by
          have h5 := (OwnL.lt hO j hj).1
          have h6 := HVI.out j e
          omega
        have hI8 := OwnL.grown (OwnL.below hI hA8.below) hg8 (fun j hj e => hoi j e hj)
        rw [HS.out] at hN2
        rw [List.length_append, List.length_singleton] at hown
        refine ⟨⟨k + 1, hlt, rfl, ?_, hB8.far (p := ⟨gn, k, none⟩) (fun e => hBn e.symm) _, OwnL.set hI8 (a := ⟨gn, k, none⟩) (fun e => hne (Option.some.inj e).symm) _, hN2, ((hC.ext hA8).grown hg8 (fun j hj hlj => by have := (OwnL.lt hO j hj).1; omega)).set (.inl (HFN.out gn rfl)) _⟩, by simp [intOf]; omega⟩
        have h9 := OwnL.set hown (a := ⟨gn, k, none⟩) (fun e => by
          obtain ⟨cs, hBB⟩ := OwnL.block hown e
          obtain ⟨cs2, hBB2⟩ := OwnL.block hN8 (k := gn) rfl
          have := (hBB.type hBB2).1
          revert this
          decide) (.int .i64 (0 - 1))
        rw [HO.out]
        exact h9
      · have hb2 : (m == 0) = false := by simpa using h0m
        rw [if_neg h0m] at HO
        have HB := Lib.hid hb
        clear hb h0m
        go_wp2_with (fail)
        have hN2 := own_put hN (k := k) (m - 1)
        rw [HS.out] at hN2
        refine ⟨⟨k + 1, hlt, rfl, ?_, hB.far (p := ⟨gn, k, none⟩) (fun e => hBn e.symm) _, OwnL.set hI (a := ⟨gn, k, none⟩) (fun e => hne (Option.some.inj e).symm) _, hN2, hC.set (.inl (HFN.out gn rfl)) _⟩, by simp [intOf]; omega⟩
        have := OwnL.set hO (a := ⟨gn, k, none⟩) (fun e => by have h5 := (OwnL.lt hO gn e).1; have := (HVN.out gn rfl).1; omega) (.int .i64 (m - 1))
        rw [HO.out]
        exact this
    · obtain rfl : k = l.length := by omega
      simp only [List.take_length] at hO ⊢
      have hdl : (decP l l.length) = (decL l).map (·.2) := by
        unfold decP decL
        rw [List.take_length, List.drop_length, List.map_nil, List.append_nil, List.map_map]
        rfl
      rw [hdl] at hN
      have hR : RtAt wr tb base (decL l) := ⟨h0, _, _, hB, by unfold decL; rw [List.map_map]; exact hI, hN⟩
      have hdn : (decL l).length = l.length := by unfold decL; simp
      clear hN hI hB hdl hol
      generalize hoo : outL l = out at hO ⊢
      have HOO := Lib.hid hoo
      clear hoo
      have hol2 : out.length ≤ l.length := by rw [← HOO.out]; exact out_len l
      have hI := hO.ints
      go_wp2_with (fail)
      go_loopw [5] (fun i w2 => ∃ j : Nat, j ≤ out.length ∧ i = .int .i64 j ∧ RowP w2 w.heap.size (.slice Ao out.length co) out ∧ RtAt w2 tb base ((out.take j).foldl dropL (decL l)) ∧ Chg (OfT w base [46, 2]) w w2) (fun i _ => out.length - (intOf i).toNat)
      case atStart => exact ⟨0, Nat.zero_le _, rfl, hO, hR, hC⟩
      case round =>
        obtain ⟨j, hj, rfl, hO2, hR2, hC2⟩ := hrel
        have hI2 := RowP.ints hO2
        by_cases hlt : j < out.length
        · obtain ⟨b, o, rfl, hx⟩ := hI2.at hlt
          have hxx := hx wr (Ext.refl wr)
          have HS := Lib.hid (show (out.take (j + 1)).foldl dropL (decL l) = dropL ((out.take j).foldl dropL (decL l)) out[j] by
            rw [List.take_succ_eq_append_getElem hlt, List.foldl_append]; rfl)
          have hln : ((out.take j).foldl dropL (decL l)).length ≤ l.length := by
            have : ∀ (zs : List Int) (m : List (Int × Int)), (zs.foldl dropL m).length ≤ m.length := by
              intro zs
              induction zs with
              | nil => intro m; exact Nat.le_refl _
              | cons z zs ih => intro m; exact Nat.le_trans (ih _) (List.length_filter_le _ _)
            exact Nat.le_trans (this _ _) (Nat.le_of_eq hdn)
          have hss := fold_sort (out.take j) (decL l) (dec_sort hs)
          obtain ⟨f', hA'⟩ := Agr2.of_sort hss
          have hD := drop22_any tb base _ f' out[j] wr hR2 hA' (by omega)
          have HD := Lib.hid hD
          clear hD hx hR hA' hss hdn hln
          generalize out[j] = x at hxx HS HD
          go_wp2_with (fail)
          refine HD.out.mono ?_
          rintro e w3 ⟨rfl, hR3, hC3⟩
          go_frame
          go_wp2_with (fail)
          refine ⟨⟨j + 1, hlt, rfl, OwnL.chg hO2 hC3 (OwnL.notT hO2 (by decide)), by rw [HS.out]; exact hR3, hC2.andThen hC3 (fun i hi hF => hF.back hC2 hi)⟩, by simp [intOf]; omega⟩
        · obtain rfl : j = out.length := by omega
          rw [List.take_length] at hR2
          go_wp2_with (fail)
          go_ret
          refine ⟨.slice Ao out.length co, rfl, by rw [HOO.out]; exact hO2, ?_, hC2⟩
          unfold tickL
          rw [HOO.out]
          exact hR2
end Go.Proofs.Ytenamokjbbiecaa
