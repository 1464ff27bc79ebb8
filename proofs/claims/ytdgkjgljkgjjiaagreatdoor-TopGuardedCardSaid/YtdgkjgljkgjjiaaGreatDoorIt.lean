/-
  The iterator 'open' of a sea.
-/
import Derived.Test.YtdgkjgljkgjjiaaGreatDoorRd
import Derived.Test.YtdgkjgljkgjjiaaGreatDoorBsB
namespace Go.Proofs.YtdgkjgljkgjjiaaGreatDoor
open Go.RowKit
set_option linter.unusedVariables false

theorem fd85_0i : fldB Tryz.prog 85 0 = some 0 := by kernel_rfl
theorem fd85_1i : fldB Tryz.prog 85 1 = some 5 := by kernel_rfl
theorem fd38_3i : fldB Tryz.prog 38 3 = some 3 := by kernel_rfl
theorem na36i : naB Tryz.prog 36 = true := by kernel_rfl
theorem sl36i : slB Tryz.prog 36 = some (82, 4, 32) := by kernel_rfl
theorem ag82i : agB Tryz.prog 82 = some 4 := by kernel_rfl
theorem sz82i : szB Tryz.prog 82 = some 4 := by kernel_rfl
theorem cntL (n : Nat) : ∀ (m i : Nat), i + m = n → lp (fun i : Nat => if i < n then some (Sum.inl (i + 1)) else some (Sum.inr ())) i = some ()
  | 0, i, h => by rw [lp_eq]; simp [show ¬ i < n by omega]
  | m + 1, i, h => by rw [lp_eq]; simp only [show i < n by omega, if_true]; exact cntL n m (i + 1) (by omega)
theorem f100_it {G : Gm} {x0 : TSea} {a1 a2 a3 : Option Addr} {n1 c1 n2 c2 n3 c3 : Nat} (h3 : RSl RTBaneTrip 4 G a3 n3 c3 x0.BaneSea.Trips) :
    IterOk Tryz.prog 100 [.agg #[.int .i64 x0.BaneSea.Islets, .slice a1 n1 c1, .slice a2 n2 c2, .slice a3 n3 c3, .int .i64 x0.BaneSea.Wait, .int .i64 x0.shut]] [] G encT (openL x0.shut 0 x0.BaneSea.Trips) := by
  intro l B G0 w0 J Jx G1 L1 w hle hS hO hmono hy h0
  refine enterI (l := l) (N := 29) Tryz.func100 rfl rfl rfl rfl ?_
  refine WC_seq ?_
  refine WC_region ?_
  refine WL_op rfl (OpP_newO (v := fun b => .pointer (some ⟨b, 0, none⟩)) (cs := [.int .i64 x0.BaneSea.Islets, .slice a1 n1 c1, .slice a2 n2 c2, .slice a3 n3 c3, .int .i64 x0.BaneSea.Wait, .int .i64 x0.shut]) (e := 85) (rn_boxA rfl) hS.sat hO rfl 6 1 rfl (by decide) (fun b2 w2 hb hO => ?_))
  have hS := hS.keep hb
  have hJ := hmono _ _ _ _ _ _ h0 (Gle.refl _) (.below hb)
  have hO : Owns G1 w2 B (⟨85, 6, 1, .slice (some ⟨b2, 0, none⟩) 1 1, [.int .i64 x0.BaneSea.Islets, .slice a1 n1 c1, .slice a2 n2 c2, .slice a3 n3 c3, .int .i64 x0.BaneSea.Wait, .int .i64 x0.shut]⟩ :: L1) := hO
  refine WL_nil ?_
  refine WC_seq ?_
  refine WC_region ?_
  refine WL_val (rn_fld fd85_0i rfl) rfl ?_
  refine WL_val (rn_fld fd38_3i rfl) rfl ?_
  refine WL_val (rn_load na36i rfl (own_cell hO (k := 0) rfl (j := 3) rfl)) rfl ?_
  refine WL_val (rn_len (m := x0.BaneSea.Trips.length) sl36i rfl rfl h3.1) rfl ?_
  refine WL_val (rn_move (v := .int .i64 0) rfl) rfl ?_
  refine WL_nil ?_
  have hlen : x0.BaneSea.Trips.length ≤ maxLen := h3.1 ▸ h3.2.1.1
  refine WC_block (WC_loop (cntL x0.BaneSea.Trips.length x0.BaneSea.Trips.length 0 (by omega)) (fun i F w' => ∃ (Fb : Fr) (G' : Gm) (L' : List Row) (k : Nat), F = upds Fb [(1, .func (.yield l) #[] #[]), (2, .pointer (some ⟨b2, 0, none⟩)), (8, .slice a3 n3 c3), (9, .int .i64 (x0.BaneSea.Trips.length : Int)), (10, .int .i64 (i : Int))] ∧ Gle G1 G' ∧ Since B G0 w0 G' w' ∧ Owns G' w' B (⟨85, 6, 1, .slice (some ⟨b2, 0, none⟩) 1 1, [.int .i64 x0.BaneSea.Islets, .slice a1 n1 c1, .slice a2 n2 c2, .slice a3 n3 c3, .int .i64 x0.BaneSea.Wait, .int .i64 x0.shut]⟩ :: L') ∧ J G' L' k w' ∧ k ≤ (openL x0.shut 0 x0.BaneSea.Trips).length ∧ i ≤ x0.BaneSea.Trips.length ∧ (openL x0.shut 0 x0.BaneSea.Trips).drop k = openL x0.shut i (x0.BaneSea.Trips.drop i)) ?_ ?_)
  · exact ⟨_, G1, L1, 0, upds_self _ _ ⟨rfl, rfl, rfl, rfl, rfl, trivial⟩, Gle.refl _, hS, hO, hJ, Nat.zero_le _, Nat.zero_le _, rfl⟩
  · rintro i F w' t ⟨Fb, G', L', k, rfl, hle2, hS, hO, hJ', hkl, hi, hdrop⟩ hbody hres
    refine WC_seq ?_
    refine WC_region ?_
    refine WL_val (rn_lss rfl rfl) rfl ?_
    refine WL_nil ?_
    refine WC_seq ?_
    refine WC_cond rfl (fun hb => ?_) (fun hb => ?_)
    · have hlt : i < x0.BaneSea.Trips.length := by have := of_decide_eq_true hb; omega
      simp only [hlt, if_true] at hbody
      have hbody := Option.some.inj hbody
      subst hbody
      have hcons := List.drop_eq_getElem_cons hlt
      obtain ⟨y, hyy⟩ : ∃ y, y = x0.BaneSea.Trips[i] := ⟨_, rfl⟩
      rw [← hyy] at hcons
      rw [hcons] at hdrop
      have hix : ix x0.BaneSea.Trips (i : Int) = some y := by
        unfold ix
        simp [hlt, hyy]
      refine WC_skip ?_
      refine WC_seq ?_
      refine WC_cut (fun F w' => ∃ (Fb : Fr) (G' : Gm) (L' : List Row) (k : Nat), F = upds Fb [(1, .func (.yield l) #[] #[]), (2, .pointer (some ⟨b2, 0, none⟩)), (8, .slice a3 n3 c3), (9, .int .i64 (x0.BaneSea.Trips.length : Int)), (10, .int .i64 (i : Int))] ∧ Gle G1 G' ∧ Since B G0 w0 G' w' ∧ Owns G' w' B (⟨85, 6, 1, .slice (some ⟨b2, 0, none⟩) 1 1, [.int .i64 x0.BaneSea.Islets, .slice a1 n1 c1, .slice a2 n2 c2, .slice a3 n3 c3, .int .i64 x0.BaneSea.Wait, .int .i64 x0.shut]⟩ :: L') ∧ J G' L' k w' ∧ k ≤ (openL x0.shut 0 x0.BaneSea.Trips).length ∧ (openL x0.shut 0 x0.BaneSea.Trips).drop k = openL x0.shut (i + 1) (x0.BaneSea.Trips.drop (i + 1))) ?_ ?_
      · refine WC_block ?_
        refine WC_seq ?_
        refine WC_region ?_
        refine WL_val (rn_move (v := .int .i64 (i : Int)) rfl) rfl ?_
        refine WL_idx sl36i (h3.mono RTBaneTrip_mono (hle.trans hle2)) hix rfl rfl rfl ?_
        rintro b6 o6 _ hcb6 _ ⟨⟩
        refine WL_val (rn_loadA ag82i (cs := [.int .i64 y.Day, .int .i64 y.From, .int .i64 y.To, .int .i64 y.Cost]) rfl rfl (fun j v hj => hS.sat.cell (hcb6.drop_take 0 4 j v hj))) rfl ?_
        refine WL_op rfl (OpP_newO (v := fun b => .pointer (some ⟨b, 0, none⟩)) (cs := [.int .i64 0, .int .i64 0, .int .i64 0, .int .i64 0]) (e := 82) (by kernel_rfl) hS.sat hO rfl 4 1 rfl (by decide) (fun b7 w8 hb hO => ?_))
        have hS := hS.keep hb
        have hJ' := hmono _ _ _ _ _ _ hJ' (Gle.refl _) (.below hb)
        refine WL_val (rn_assign (v := .int .i64 (i : Int)) rfl) rfl ?_
        refine WL_op rfl (OpP_storeJ (vs := [.int .i64 y.Day, .int .i64 y.From, .int .i64 y.To, .int .i64 y.Cost]) sz82i hS hO (k := 0) rfl rfl rfl rfl rfl (one_all rfl) (Nat.le_of_ble_eq_true rfl) (fun w9 hk9 hS hO => ?_))
        have hJ' := hmono _ _ _ _ _ _ hJ' (Gle.refl _) hk9
        have hO : Owns G' w9 B (⟨82, 4, 1, .slice (some ⟨b7, 0, none⟩) 1 1, [.int .i64 y.Day, .int .i64 y.From, .int .i64 y.To, .int .i64 y.Cost]⟩ :: ⟨85, 6, 1, .slice (some ⟨b2, 0, none⟩) 1 1, [.int .i64 x0.BaneSea.Islets, .slice a1 n1 c1, .slice a2 n2 c2, .slice a3 n3 c3, .int .i64 x0.BaneSea.Wait, .int .i64 x0.shut]⟩ :: L') := hO
        refine WL_nil ?_
        refine WC_seq ?_
        refine WC_region ?_
        refine WL_val (rn_fld fd85_1i rfl) rfl ?_
        refine WL_val (rn_load na3 rfl (own_cell hO (k := 1) rfl (j := 5) rfl)) rfl ?_
        refine WL_val (rn_move (v := .int .i64 (i : Int)) rfl) rfl ?_
        have hshr : shrI .i64 x0.shut (i : Int) = some (x0.shut.fdiv (2 ^ min i IntKind.i64.bits)) := by
          unfold shrI
          rw [if_neg (by omega)]
          rfl
        refine WL_val (rn_shr rfl rfl hshr) rfl ?_
        refine WL_val (rn_and rfl rfl) rfl ?_
        refine WL_val (rn_eql rfl rfl) rfl ?_
        refine WL_val (rn_move rfl) rfl ?_
        by_cases hbit : (andI .i64 (x0.shut.fdiv (2 ^ min i IntKind.i64.bits)) 1 == 0) = true
        · have hd1 : openL x0.shut i (y :: x0.BaneSea.Trips.drop (i + 1)) = ((i : Int), y) :: openL x0.shut (i + 1) (x0.BaneSea.Trips.drop (i + 1)) := by
            simp only [openL]; rw [if_pos hbit]
          rw [hd1] at hdrop
          have hk : (openL x0.shut 0 x0.BaneSea.Trips)[k]? = some ((i : Int), y) := by
            have := congrArg (fun l => l[0]?) hdrop
            simpa using this
          have hdrop' : (openL x0.shut 0 x0.BaneSea.Trips).drop (k + 1) = openL x0.shut (i + 1) (x0.BaneSea.Trips.drop (i + 1)) := by
            have := congrArg List.tail hdrop
            simpa using this
          refine WL_guardY rfl hbit rfl rfl (WL_val (rn_move (v := .func (.yield l) #[] #[]) rfl) rfl ?_)
          refine WL_guardY rfl hbit rfl rfl (WL_val (rn_move (v := .int .i64 (i : Int)) rfl) rfl ?_)
          refine WL_guardY rfl hbit rfl rfl (WL_val (rn_loadA ag82i (cs := [.int .i64 y.Day, .int .i64 y.From, .int .i64 y.To, .int .i64 y.Cost]) rfl rfl (fun j v hj => own_sub hO (k := 0) rfl 0 4 j v hj)) rfl ?_)
          refine WL_guardY rfl hbit rfl rfl (WL_yield (al := encT ((i : Int), y)) (hy G' L' [⟨82, 4, 1, .slice (some ⟨b7, 0, none⟩) 1 1, [.int .i64 y.Day, .int .i64 y.From, .int .i64 y.To, .int .i64 y.Cost]⟩, ⟨85, 6, 1, .slice (some ⟨b2, 0, none⟩) 1 1, [.int .i64 x0.BaneSea.Islets, .slice a1 n1 c1, .slice a2 n2 c2, .slice a3 n3 c3, .int .i64 x0.BaneSea.Wait, .int .i64 x0.shut]⟩] k w9 ((i : Int), y) hle2 hJ' hS hO hk) rfl rfl rfl ?_)
          rintro e w10 ⟨hkeep, ⟨rfl, G10, L10, le10, hS, hO, hJ10⟩ | ⟨rfl, hjx⟩⟩
          · refine ⟨_, rfl, hkeep, ?_⟩
            refine WL_guardY rfl hbit rfl rfl (WL_val (rn_not rfl) rfl ?_)
            refine WL_val (rn_pickT rfl hbit rfl) rfl ?_
            refine WL_nil ?_
            refine WC_condF false rfl rfl ?_
            refine WC_skip ?_
            exact ⟨_, G10, L10, k + 1, upds_self _ _ ⟨rfl, rfl, rfl, rfl, rfl, trivial⟩, hle2.trans le10, hS, hO.drop 0, hJ10, (List.getElem?_eq_some_iff.1 hk).1, hdrop'⟩
          · refine ⟨_, rfl, hkeep, ?_⟩
            refine WL_guardY rfl hbit rfl rfl (WL_val (rn_not rfl) rfl ?_)
            refine WL_val (rn_pickT rfl hbit rfl) rfl ?_
            refine WL_nil ?_
            refine WC_condT true rfl rfl ?_
            refine WC_ret ?_
            exact fun hkp => ⟨⟨_, rfl⟩, hkp, .inr hjx⟩
        · have hbit' : (andI .i64 (x0.shut.fdiv (2 ^ min i IntKind.i64.bits)) 1 == 0) = false := by simpa using hbit
          have hd1 : openL x0.shut i (y :: x0.BaneSea.Trips.drop (i + 1)) = openL x0.shut (i + 1) (x0.BaneSea.Trips.drop (i + 1)) := by
            simp only [openL]; rw [if_neg hbit]
          rw [hd1] at hdrop
          refine WL_guardN rfl hbit' rfl rfl rfl ?_
          refine WL_guardN rfl hbit' rfl rfl rfl ?_
          refine WL_guardN rfl hbit' rfl rfl rfl ?_
          refine WL_guardN rfl hbit' rfl rfl rfl ?_
          refine WL_guardN rfl hbit' rfl rfl rfl ?_
          refine WL_val (rn_pickF rfl hbit' rfl) rfl ?_
          refine WL_nil ?_
          refine WC_condF false rfl rfl ?_
          refine WC_skip ?_
          exact ⟨_, G', L', k, upds_self _ _ ⟨rfl, rfl, rfl, rfl, rfl, trivial⟩, hle2, hS, hO.drop 0, hJ', hkl, hdrop⟩
      · rintro F w3 ⟨Fb, G3, L3, k3, rfl, hle3, hS, hO, hJ3, hkl3, hdrop3⟩
        refine WC_region ?_
        refine WL_val (rn_add rfl rfl) rfl ?_
        refine WL_val (rn_move (v := .int .i64 (IntKind.i64.wrap ((i : Int) + 1))) rfl) rfl ?_
        refine WL_nil ?_
        have hw : IntKind.i64.wrap ((i : Int) + 1) = ((i + 1 : Nat) : Int) := by
          rw [IntKind.wrap_i64]
          have : i + 1 ≤ 9223372036854775807 := Nat.le_trans hlt hlen
          omega
        rw [hw]
        exact ⟨i + 1, rfl, _, G3, L3, k3, upds_self _ _ ⟨rfl, rfl, rfl, rfl, rfl, trivial⟩, hle3, hS, hO, hJ3, hkl3, hlt, hdrop3⟩
    · have hge : i = x0.BaneSea.Trips.length := by have := of_decide_eq_false hb; omega
      refine WC_exit rfl ?_
      intro hkp
      have hk0 : (openL x0.shut 0 x0.BaneSea.Trips).drop k = [] := by rw [hdrop, hge, List.drop_length]; rfl
      have hkn : k = (openL x0.shut 0 x0.BaneSea.Trips).length := by
        have := List.drop_eq_nil_iff.1 hk0
        omega
      exact ⟨⟨_, rfl⟩, hkp, .inl ⟨G', L', hle2, hS, by simpa using hO.drop 0, hkn ▸ hJ'⟩⟩
end Go.Proofs.YtdgkjgljkgjjiaaGreatDoor
