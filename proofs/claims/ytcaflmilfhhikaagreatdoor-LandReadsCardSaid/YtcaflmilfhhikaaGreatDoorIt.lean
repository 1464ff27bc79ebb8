/-
  The iterator over sets of memories.
-/
import Derived.Test.YtcaflmilfhhikaaGreatDoorRd
import Derived.Test.YtcaflmilfhhikaaGreatDoorBaseM
namespace Go.Proofs.YtcaflmilfhhikaaGreatDoor
open Go.RowKit
set_option linter.unusedVariables false

section
variable {P : Program} {w : World} {N : Nat}
/-- Entering a function that yields, and hands back one value. -/
theorem enterI1 {f : FuncId} {fn : Func} {c : Code} {al : List Value} {R : Ending → World → Prop} {l t : Nat} (hf : P.funcs[f]? = some fn) (hb : fn.body = some c) (hr : fn.results = #[.tmp t]) (hn : fn.ntmps = N) (hN : Nat.ble al.length N = true)
    (h : WC ⟨none, some l, w.heap.size, true, []⟩ P N c ⟨fun F w' => Keeps (some l) w w' → R (.returned (F t)) w', fun F w' => Keeps (some l) w w' → R (.returned (F t)) w', [], fun _ _ _ => False⟩ (nthD al) w) : Calls P f al.toArray w R := by
  have hle := Nat.le_of_ble_eq_true hN
  have h0 : CallsIn Fence.wide 0 P f al.toArray w R := by
    refine callsIn_of_wp hf hb trivial (wpIn_mono (h _ w ⟨?_, Calm.nil _ _, Keeps.refl _, Nat.le_refl _⟩ ?_) ?_)
    · simp [hn]; omega
    · exact frOf_enter al _ _
    · rintro e a' w' ⟨p1, p3⟩
      cases e with
      | normal => exact ⟨p1.calm.none rfl, _, results_tmp hr _ _ _, p3 p1.keep⟩
      | ret => exact ⟨p1.calm.none rfl, _, results_tmp hr _ _ _, p3 p1.keep⟩
      | exit k => obtain ⟨K, hK, _⟩ := p3; cases hK
      | goto l => exact p3.elim
      | panic c => exact p3.elim
      | outgrown => exact p3.elim
  exact callsIn_wide.1 h0
end
theorem rng_cons {f : Nat → List Int} {i n : Nat} (h : i < n) : (List.range' i (n - i)).flatMap f = f i ++ (List.range' (i + 1) (n - (i + 1))).flatMap f := by
  rw [show n - i = (n - (i + 1)) + 1 by omega, List.range'_succ, List.flatMap_cons]
theorem rng_nil {f : Nat → List Int} {i n : Nat} (h : n ≤ i) : (List.range' i (n - i)).flatMap f = [] := by
  rw [show n - i = 0 by omega]; rfl
theorem cntL (n : Nat) : ∀ (m i : Nat), i + m = n → lp (fun i : Nat => if i < n then some (Sum.inl (i + 1)) else some (Sum.inr ())) i = some ()
  | 0, i, h => by rw [lp_eq]; simp [show ¬ i < n by omega]
  | m + 1, i, h => by rw [lp_eq]; simp only [show i < n by omega, if_true]; exact cntL n m (i + 1) (by omega)
section
variable {l B : Nat} {G0 : Gm} {w0 : World} {J : Gm → List Row → Nat → World → Prop} {Jx : World → Prop} {G1 : Gm} {x0 : TLandBook} {bb rm : Nat} {a1 a2 a3 : Option Addr} {n1 c1 n2 c2 n3 c3 : Nat} {b2 b3 b4 : Nat} {xs : List Int}
/-- The rows of the iterator's own. -/
def lxS (l bb b2 b3 b4 : Nat) : List Row := [⟨121, 1, 1, .slice (some ⟨b4, 0, none⟩) 1 1, [.func (.func 64) #[] #[.pointer (some ⟨b3, 0, none⟩), .pointer (some ⟨b2, 0, none⟩), .pointer (some ⟨b4, 0, none⟩)]]⟩, ⟨78, 1, 1, .slice (some ⟨b3, 0, none⟩) 1 1, [.func (.yield l) #[] #[]]⟩, ⟨76, 1, 1, .slice (some ⟨b2, 0, none⟩) 1 1, [.pointer (some ⟨bb, 0, none⟩)]⟩]
def SearchR (l B : Nat) (G0 : Gm) (w0 : World) (J : Gm → List Row → Nat → World → Prop) (Jx : World → Prop) (bb b2 b3 b4 : Nat) (G : Gm) (k : Nat) (w : World) : Ending → World → Prop := fun e w' =>
  ∃ b, e = .returned (.bool b) ∧ Keeps (some l) w w' ∧ ((b = true ∧ ∃ G' L', Gle G G' ∧ Since B G0 w0 G' w' ∧ Owns G' w' B (lxS l bb b2 b3 b4 ++ L') ∧ J G' L' k w') ∨ (b = false ∧ Jx w'))
theorem search_ok (hcb : Cells G1 bb 0 [.slice a1 n1 c1, .slice a2 n2 c2, .slice a3 n3 c3, .map (some rm)]) (h3 : RSl RTLandMemory 4 G1 a3 n3 c3 x0.Memories)
    (hmono : ∀ G L k w G' w', J G L k w → Gle G G' → Keeps none w w' → J G' L k w')
    (hy : ∀ G L Lx k w x, Gle G1 G → J G L k w → Since B G0 w0 G w → Owns G w B (Lx ++ L) → xs[k]? = some x → YieldAt Fence.wide 0 Tryz.prog l (encS x).toArray w fun e w' =>
      Keeps (some l) w w' ∧ ((e = .returned (.bool true) ∧ ∃ G' L', Gle G G' ∧ Since B G0 w0 G' w' ∧ Owns G' w' B (Lx ++ L') ∧ J G' L' (k + 1) w') ∨ (e = .returned (.bool false) ∧ Jx w'))) :
    ∀ (lf i : Nat) (now : Int) (G : Gm) (L : List Row) (k : Nat) (w : World) (rest : List Int), lf ≤ 1000 → i ≤ x0.Memories.length → x0.Memories.length ≤ 1000000 → Gle G1 G → Since B G0 w0 G w → Owns G w B (lxS l bb b2 b3 b4 ++ L) → J G L k w → xs.drop k = subsL x0.Memories.length lf i now ++ rest →
      Calls Tryz.prog 64 [.int .i64 (lf : Int), .int .i64 (i : Int), .int .i64 now, .pointer (some ⟨b3, 0, none⟩), .pointer (some ⟨b2, 0, none⟩), .pointer (some ⟨b4, 0, none⟩)].toArray w (SearchR l B G0 w0 J Jx bb b2 b3 b4 G (k + (subsL x0.Memories.length lf i now).length) w)
  | 0, i, now, G, L, k, w, rest, _, hi, hm, hle, hS, hO, hJ, hd => by
    refine enterI1 (l := l) (N := 38) Tryz.func64 rfl rfl rfl rfl ?_
    refine WC_seq ?_
    refine WC_region ?_
    refine WL_val (rn_assign (v := .bool false) rfl) rfl ?_
    refine WL_nil ?_
    refine WC_seq ?_
    refine WC_seq ?_
    refine WC_region ?_
    refine WL_val (rn_move (v := .int .i64 ((0 : Nat) : Int)) rfl) rfl ?_
    refine WL_val (rn_eql rfl rfl) rfl ?_
    refine WL_nil ?_
    refine WC_condT _ rfl rfl ?_
    refine WC_seq ?_
    refine WC_region ?_
    refine WL_val (rn_load na78 rfl (own_cell hO (k := 1) rfl (j := 0) rfl)) rfl ?_
    refine WL_val (rn_move (v := .int .i64 now) rfl) rfl ?_
    have hk : xs[k]? = some now := by
      have := congrArg (fun q => q[0]?) hd
      simpa [subsL] using this
    refine WL_yield (al := encS now) (hy G L (lxS l bb b2 b3 b4) k w now hle hJ hS hO hk) rfl rfl rfl ?_
    rintro e w' ⟨hkeep, ⟨rfl, G', L', le', hS, hO, hJ⟩ | ⟨rfl, hjx⟩⟩
    · refine ⟨_, rfl, hkeep, ?_⟩
      refine WL_val (rn_assign (v := .bool true) rfl) rfl ?_
      refine WL_nil ?_
      refine WC_ret ?_
      exact fun hkp => ⟨true, rfl, hkp, .inl ⟨rfl, G', L', le', hS, hO, hJ⟩⟩
    · refine ⟨_, rfl, hkeep, ?_⟩
      refine WL_val (rn_assign (v := .bool false) rfl) rfl ?_
      refine WL_nil ?_
      refine WC_ret ?_
      exact fun hkp => ⟨false, rfl, hkp, .inr ⟨rfl, hjx⟩⟩
  | lf + 1, i, now, G, L, k, w, rest, hlf, hi, hm, hle, hS, hO, hJ, hd => by
    obtain ⟨f, hf⟩ : ∃ f : Nat → List Int, f = fun k => subsL x0.Memories.length lf (k + 1) (orI .i64 now (bitOf k)) := ⟨_, rfl⟩
    have hsub : subsL x0.Memories.length (lf + 1) i now = (List.range' i (x0.Memories.length - i)).flatMap f := by rw [hf]; rfl
    rw [hsub] at hd ⊢
    refine enterI1 (l := l) (N := 38) Tryz.func64 rfl rfl rfl rfl ?_
    refine WC_seq ?_
    refine WC_region ?_
    refine WL_val (rn_assign (v := .bool false) rfl) rfl ?_
    refine WL_nil ?_
    refine WC_seq ?_
    refine WC_seq ?_
    refine WC_region ?_
    refine WL_val (rn_move (v := .int .i64 ((lf + 1 : Nat) : Int)) rfl) rfl ?_
    refine WL_val (rn_eql rfl rfl) rfl ?_
    refine WL_nil ?_
    refine WC_cond rfl (fun hb => nomore (b := (((lf + 1 : Nat) : Int) == 0)) (by rw [beq_eq_false_iff_ne]; omega) hb) (fun _ => ?_)
    refine WC_skip ?_
    refine WC_seq ?_
    refine WC_cut (fun F w' => ∃ (Fb : Fr) (G' : Gm) (L' : List Row), F = upds Fb [] ∧ Gle G G' ∧ Since B G0 w0 G' w' ∧ Owns G' w' B (lxS l bb b2 b3 b4 ++ L') ∧ J G' L' (k + ((List.range' i (x0.Memories.length - i)).flatMap f).length) w') ?_ ?_
    · refine WC_seq ?_
      refine WC_region ?_
      refine WL_val (rn_move (v := .int .i64 (i : Int)) rfl) rfl ?_
      refine WL_val (rn_assign (v := .int .i64 (i : Int)) rfl) rfl ?_
      refine WL_nil ?_
      refine WC_block (WC_loop (cntL x0.Memories.length (x0.Memories.length - i) i (by omega)) (fun q F w' => ∃ (Fb : Fr) (G' : Gm) (L' : List Row) (k' : Nat), F = upds Fb [(0, .int .i64 ((lf + 1 : Nat) : Int)), (2, .int .i64 now), (3, .pointer (some ⟨b3, 0, none⟩)), (4, .pointer (some ⟨b2, 0, none⟩)), (5, .pointer (some ⟨b4, 0, none⟩)), (10, .int .i64 (q : Int))] ∧ Gle G G' ∧ Since B G0 w0 G' w' ∧ Owns G' w' B (lxS l bb b2 b3 b4 ++ L') ∧ J G' L' k' w' ∧ q ≤ x0.Memories.length ∧ k' + ((List.range' q (x0.Memories.length - q)).flatMap f).length = k + ((List.range' i (x0.Memories.length - i)).flatMap f).length ∧ xs.drop k' = (List.range' q (x0.Memories.length - q)).flatMap f ++ rest) ?_ ?_)
      · exact ⟨_, G, L, k, upds_self _ _ ⟨rfl, rfl, rfl, rfl, rfl, rfl, trivial⟩, Gle.refl _, hS, hO, hJ, hi, rfl, hd⟩
      · rintro q F w' t ⟨Fb, G', L', k', rfl, hle2, hS, hO, hJ, hq, hlen, hd⟩ hbody hres
        have hG := hle.trans hle2
        refine WC_seq ?_
        refine WC_seq ?_
        refine WC_region ?_
        refine WL_val (rn_move (v := .int .i64 (q : Int)) rfl) rfl ?_
        refine WL_val (rn_load na76 rfl (own_cell hO (k := 2) rfl (j := 0) rfl)) rfl ?_
        refine WL_val (v := .pointer (some ⟨bb, 0, none⟩)) (by kernel_rfl) rfl ?_
        refine WL_val (rn_fld fd119_0 rfl) rfl ?_
        refine WL_val (rn_fld fd26_2 rfl) rfl ?_
        refine WL_val (rn_load na24 rfl (hS.sat.cell ((hcb.mono hG) 2 _ rfl))) rfl ?_
        refine WL_val (rn_len (m := x0.Memories.length) sl24 rfl rfl h3.1) rfl ?_
        refine WL_val (rn_lss rfl rfl) rfl ?_
        refine WL_nil ?_
        refine WC_cond rfl (fun hb => ?_) (fun hb => ?_)
        · have hlt : q < x0.Memories.length := by have := of_decide_eq_true hb; omega
          simp only [hlt, if_true] at hbody
          have hbody := Option.some.inj hbody
          subst hbody
          rw [rng_cons hlt] at hd hlen
          refine WC_skip ?_
          refine WC_seq ?_
          refine WC_cut (fun F w' => ∃ (Fb : Fr) (G' : Gm) (L' : List Row) (k' : Nat), F = upds Fb [(0, .int .i64 ((lf + 1 : Nat) : Int)), (2, .int .i64 now), (3, .pointer (some ⟨b3, 0, none⟩)), (4, .pointer (some ⟨b2, 0, none⟩)), (5, .pointer (some ⟨b4, 0, none⟩)), (10, .int .i64 (q : Int))] ∧ Gle G G' ∧ Since B G0 w0 G' w' ∧ Owns G' w' B (lxS l bb b2 b3 b4 ++ L') ∧ J G' L' k' w' ∧ k' + ((List.range' (q + 1) (x0.Memories.length - (q + 1))).flatMap f).length = k + ((List.range' i (x0.Memories.length - i)).flatMap f).length ∧ xs.drop k' = (List.range' (q + 1) (x0.Memories.length - (q + 1))).flatMap f ++ rest) ?_ ?_
          · refine WC_block ?_
            refine WC_seq ?_
            have hJ := hmono _ _ _ _ _ _ hJ (Gle.refl _) (Keeps.drew _)
            have hS := hS.keep (below_drew _)
            have hO := hO.below (below_drew _)
            refine WC_regionD mixedO (fun _ w => Sat G' w ∧ Owns G' w B (lxS l bb b2 b3 b4 ++ L')) (.fl 0 (.fl 1 (.fl 2 (.fl 3 (.fl 4 (.fl 5 (.on 6 (.on 7 (.on 8 (.on 9 (.on 10 .nil))))))))))) (by kernel_rfl) rfl (by kernel_rfl) (fun _ => ⟨hS.sat, hO⟩) ?_
            refine WD_val rfl (fun w hw => rn_load na121 rfl (own_cell hw.2 (k := 0) rfl (j := 0) rfl)) rfl ?_
            refine WD_val rfl (fun w hw => rn_move (v := .int .i64 ((lf + 1 : Nat) : Int)) rfl) rfl ?_
            refine WD_val rfl (fun w hw => rn_sub rfl rfl) rfl ?_
            refine WD_val rfl (fun w hw => rn_move (v := .int .i64 (q : Int)) rfl) rfl ?_
            refine WD_val rfl (fun w hw => rn_add rfl rfl) rfl ?_
            refine WD_val rfl (fun w hw => rn_move (v := .int .i64 now) rfl) rfl ?_
            refine WD_op rfl rfl (OpP_val (rn_move (v := .int .i64 (q : Int)) rfl) rfl ?_)
            refine ⟨fun _ _ => ⟨hS.sat, hO⟩, ?_⟩
            have hsh : shlI .i64 1 (q : Int) = some (bitOf q) := by
              unfold shlI
              rw [if_neg (by omega)]; rfl
            refine WD_op rfl rfl (OpP_val (rn_shl rfl rfl hsh) rfl ?_)
            refine ⟨fun _ _ => ⟨hS.sat, hO⟩, ?_⟩
            refine WD_op rfl rfl (OpP_val (rn_or rfl rfl) rfl ?_)
            refine ⟨fun _ _ => ⟨hS.sat, hO⟩, ?_⟩
            have hw1 : IntKind.i64.wrap (((lf + 1 : Nat) : Int) - 1) = (lf : Int) := by
              rw [IntKind.wrap_i64]; omega
            have hw2 : IntKind.i64.wrap ((q : Int) + 1) = ((q + 1 : Nat) : Int) := by
              rw [IntKind.wrap_i64]; omega
            have hfq : f q = subsL x0.Memories.length lf (q + 1) (orI .i64 now (bitOf q)) := by rw [hf]
            have hrec := search_ok hcb h3 hmono hy lf (q + 1) (orI .i64 now (bitOf q)) G' L' k' _ ((List.range' (q + 1) (x0.Memories.length - (q + 1))).flatMap f ++ rest) (by omega) hlt hm hG hS hO hJ (by rw [hd, hfq, List.append_assoc])
            refine WD_op rfl rfl (OpP_enter (rn_callV (fi := []) (al := [.int .i64 (lf : Int), .int .i64 ((q + 1 : Nat) : Int), .int .i64 (orI .i64 now (bitOf q))]) (ca := [.pointer (some ⟨b3, 0, none⟩), .pointer (some ⟨b2, 0, none⟩), .pointer (some ⟨b4, 0, none⟩)]) cb64 rfl (by rw [← hw1, ← hw2]; rfl)) rfl hrec ?_)
            rintro e w2 ⟨b, rfl, hkeep, ⟨rfl, G2, L2, le2, hS, hO, hJ⟩ | ⟨rfl, hjx⟩⟩
            · refine ⟨_, rfl, hkeep, ?_⟩
              refine ⟨fun _ h => noneed (by kernel_rfl) h, ?_⟩
              refine WD_op rfl rfl (OpP_val (rn_not rfl) rfl ?_)
              refine ⟨fun _ h => noneed (by kernel_rfl) h, ?_⟩
              refine WD_nil ?_
              refine WC_condF (!true) rfl rfl ?_
              refine WC_skip ?_
              rw [← hfq] at hJ
              refine ⟨_, G2, L2, _, upds_self _ _ ⟨rfl, rfl, rfl, rfl, rfl, rfl, trivial⟩, hle2.trans le2, hS, hO, hJ, ?_, ?_⟩
              · rw [List.length_append] at hlen; omega
              · rw [← List.drop_drop, hd, List.append_assoc, List.drop_left]
            · refine ⟨_, rfl, hkeep, ?_⟩
              refine ⟨fun _ h => noneed (by kernel_rfl) h, ?_⟩
              refine WD_op rfl rfl (OpP_val (rn_not rfl) rfl ?_)
              refine ⟨fun _ h => noneed (by kernel_rfl) h, ?_⟩
              refine WD_nil ?_
              refine WC_condT (!false) rfl rfl ?_
              refine WC_seq ?_
              refine WC_region ?_
              refine WL_val (rn_assign (v := .bool false) rfl) rfl ?_
              refine WL_nil ?_
              refine WC_ret ?_
              exact fun hkp => ⟨false, rfl, hkp, .inr ⟨rfl, hjx⟩⟩
          · rintro F w3 ⟨Fb, G3, L3, k3, rfl, hle3, hS, hO, hJ, hlen3, hd3⟩
            refine WC_region ?_
            refine WL_val (rn_move (v := .int .i64 (q : Int)) rfl) rfl ?_
            refine WL_val (rn_add rfl rfl) rfl ?_
            refine WL_val (rn_assign (v := .int .i64 (IntKind.i64.wrap ((q : Int) + 1))) rfl) rfl ?_
            refine WL_nil ?_
            have hw2 : IntKind.i64.wrap ((q : Int) + 1) = ((q + 1 : Nat) : Int) := by
              rw [IntKind.wrap_i64]; omega
            rw [hw2]
            exact ⟨q + 1, rfl, _, G3, L3, k3, upds_self _ _ ⟨rfl, rfl, rfl, rfl, rfl, rfl, trivial⟩, hle3, hS, hO, hJ, hlt, hlen3, hd3⟩
        · have hge : x0.Memories.length ≤ q := by have := of_decide_eq_false hb; omega
          refine WC_exit rfl ?_
          rw [rng_nil hge] at hlen
          simp only [List.length_nil, Nat.add_zero] at hlen
          exact ⟨_, G', L', rfl, hle2, hS, hO, hlen ▸ hJ⟩
    · rintro F w3 ⟨Fb, G3, L3, rfl, hle3, hS, hO, hJ⟩
      refine WC_seq ?_
      refine WC_region ?_
      refine WL_val (rn_assign (v := .bool true) rfl) rfl ?_
      refine WL_nil ?_
      refine WC_ret ?_
      exact fun hkp => ⟨true, rfl, hkp, .inl ⟨rfl, G3, L3, hle3, hS, hO, hJ⟩⟩
end
theorem f42_it {G : Gm} {x0 : TLandBook} {bb rm : Nat} {a1 a2 a3 : Option Addr} {n1 c1 n2 c2 n3 c3 : Nat} (hcb : Cells G bb 0 [.slice a1 n1 c1, .slice a2 n2 c2, .slice a3 n3 c3, .map (some rm)]) (h3 : RSl RTLandMemory 4 G a3 n3 c3 x0.Memories) (hm : x0.Memories.length ≤ 1000) :
    IterOk Tryz.prog 42 [.pointer (some ⟨bb, 0, none⟩)] [] G encS (setsAll x0.Memories.length) := by
  intro l B G0 w0 J Jx G1 L1 w hle hS hO hmono hy h0
  refine enterI (l := l) (N := 22) Tryz.func42 rfl rfl rfl rfl ?_
  refine WC_seq ?_
  refine WC_region ?_
  refine WL_op rfl (OpP_newO (v := fun b => .pointer (some ⟨b, 0, none⟩)) (cs := [.pointer (some ⟨bb, 0, none⟩)]) (e := 76) (rn_box1 rfl rfl) hS.sat hO rfl 1 1 rfl (by decide) (fun b2 w1 hb hO => ?_))
  have hS := hS.keep hb
  have h0 := hmono _ _ _ _ _ _ h0 (Gle.refl _) (.below hb)
  refine WL_op rfl (OpP_newO (v := fun b => .pointer (some ⟨b, 0, none⟩)) (cs := [.func (.yield l) #[] #[]]) (e := 78) (rn_box1 rfl rfl) hS.sat hO rfl 1 1 rfl (by decide) (fun b3 w2 hb hO => ?_))
  have hS := hS.keep hb
  have h0 := hmono _ _ _ _ _ _ h0 (Gle.refl _) (.below hb)
  refine WL_nil ?_
  refine WC_seq ?_
  refine WC_region ?_
  refine WL_op rfl (OpP_newO (v := fun b => .pointer (some ⟨b, 0, none⟩)) (cs := [.nilFunc]) (e := 121) (by kernel_rfl) hS.sat hO rfl 1 1 rfl (by decide) (fun b4 w3 hb hO => ?_))
  have hS := hS.keep hb
  have h0 := hmono _ _ _ _ _ _ h0 (Gle.refl _) (.below hb)
  refine WL_nil ?_
  refine WC_seq ?_
  refine WC_region ?_
  refine WL_val (rn_func (vs := []) (us := [.pointer (some ⟨b3, 0, none⟩), .pointer (some ⟨b2, 0, none⟩), .pointer (some ⟨b4, 0, none⟩)]) rfl rfl) rfl ?_
  refine WL_op rfl (OpP_storeJ (vs := [.func (.func 64) #[] #[.pointer (some ⟨b3, 0, none⟩), .pointer (some ⟨b2, 0, none⟩), .pointer (some ⟨b4, 0, none⟩)]]) sz121 hS hO (k := 0) rfl rfl rfl rfl rfl (one_all rfl) (Nat.le_of_ble_eq_true rfl) (fun w4 hk hS hO => ?_))
  have h0 := hmono _ _ _ _ _ _ h0 (Gle.refl _) hk
  have hO : Owns G1 w4 B (lxS l bb b2 b3 b4 ++ L1) := hO
  refine WL_nil ?_
  refine WC_seq ?_
  refine WC_region ?_
  refine WL_val (rn_load na76 rfl (own_cell hO (k := 2) rfl (j := 0) rfl)) rfl ?_
  refine WL_val (v := .pointer (some ⟨bb, 0, none⟩)) (by kernel_rfl) rfl ?_
  refine WL_val (rn_fld fd119_0 rfl) rfl ?_
  refine WL_val (rn_fld fd26_2 rfl) rfl ?_
  refine WL_val (rn_load na24 rfl (hS.sat.cell ((hcb.mono hle) 2 _ rfl))) rfl ?_
  refine WL_val (rn_len (m := x0.Memories.length) sl24 rfl rfl h3.1) rfl ?_
  refine WL_val (rn_add rfl rfl) rfl ?_
  refine WL_val (rn_move (v := .int .i64 0) rfl) rfl ?_
  refine WL_nil ?_
  have hw0 : IntKind.i64.wrap ((x0.Memories.length : Int) + 1) = ((x0.Memories.length + 1 : Nat) : Int) := by
    rw [IntKind.wrap_i64]; omega
  obtain ⟨n, hn⟩ : ∃ n, n = x0.Memories.length + 1 := ⟨_, rfl⟩
  obtain ⟨f, hf⟩ : ∃ f : Nat → List Int, f = fun m => subsL x0.Memories.length m 0 0 := ⟨_, rfl⟩
  have hsa : setsAll x0.Memories.length = (List.range' 0 (n - 0)).flatMap f := by rw [hf, hn]; rfl
  rw [hsa] at hy ⊢
  rw [hw0, ← hn]
  refine WC_block (WC_loop (cntL n n 0 (by omega)) (fun q F w' => ∃ (Fb : Fr) (G' : Gm) (L' : List Row) (k' : Nat), F = upds Fb [(4, .pointer (some ⟨b4, 0, none⟩)), (13, .int .i64 (n : Int)), (14, .int .i64 (q : Int))] ∧ Gle G1 G' ∧ Since B G0 w0 G' w' ∧ Owns G' w' B (lxS l bb b2 b3 b4 ++ L') ∧ J G' L' k' w' ∧ q ≤ n ∧ k' + ((List.range' q (n - q)).flatMap f).length = ((List.range' 0 (n - 0)).flatMap f).length ∧ ((List.range' 0 (n - 0)).flatMap f).drop k' = (List.range' q (n - q)).flatMap f) ?_ ?_)
  · exact ⟨_, G1, L1, 0, upds_self _ _ ⟨rfl, rfl, rfl, trivial⟩, Gle.refl _, hS, hO, h0, Nat.zero_le _, by rw [Nat.zero_add], rfl⟩
  · rintro q F w' t ⟨Fb, G', L', k', rfl, hle2, hS, hO, hJ, hq, hlen, hd⟩ hbody hres
    have hG := hle.trans hle2
    refine WC_seq ?_
    refine WC_region ?_
    refine WL_val (rn_lss rfl rfl) rfl ?_
    refine WL_nil ?_
    refine WC_seq ?_
    refine WC_cond rfl (fun hb => ?_) (fun hb => ?_)
    · have hlt : q < n := by have := of_decide_eq_true hb; omega
      simp only [hlt, if_true] at hbody
      have hbody := Option.some.inj hbody
      subst hbody
      rw [rng_cons hlt] at hd hlen
      refine WC_skip ?_
      refine WC_seq ?_
      refine WC_cut (fun F w' => ∃ (Fb : Fr) (G' : Gm) (L' : List Row) (k' : Nat), F = upds Fb [(4, .pointer (some ⟨b4, 0, none⟩)), (13, .int .i64 (n : Int)), (14, .int .i64 (q : Int))] ∧ Gle G1 G' ∧ Since B G0 w0 G' w' ∧ Owns G' w' B (lxS l bb b2 b3 b4 ++ L') ∧ J G' L' k' w' ∧ k' + ((List.range' (q + 1) (n - (q + 1))).flatMap f).length = ((List.range' 0 (n - 0)).flatMap f).length ∧ ((List.range' 0 (n - 0)).flatMap f).drop k' = (List.range' (q + 1) (n - (q + 1))).flatMap f) ?_ ?_
      · refine WC_block ?_
        refine WC_seq ?_
        refine WC_region ?_
        refine WL_val (rn_move (v := .int .i64 (q : Int)) rfl) rfl ?_
        refine WL_val (rn_assign (v := .int .i64 (q : Int)) rfl) rfl ?_
        refine WL_nil ?_
        refine WC_seq ?_
        refine WC_region ?_
        refine WL_val (rn_load na121 rfl (own_cell hO (k := 0) rfl (j := 0) rfl)) rfl ?_
        refine WL_val (rn_move (v := .int .i64 (q : Int)) rfl) rfl ?_
        have hfq : f q = subsL x0.Memories.length q 0 0 := by rw [hf]
        have hrec := search_ok (b2 := b2) (b3 := b3) (b4 := b4) (hcb.mono hle) (h3.mono RTLandMemory_mono hle) hmono hy q 0 0 G' L' k' w' ((List.range' (q + 1) (n - (q + 1))).flatMap f) (by omega) (Nat.zero_le _) (by omega) hle2 hS hO hJ (by rw [hd, hfq])
        refine WL_op rfl (OpP_enter (rn_callV (fi := []) (al := [.int .i64 (q : Int), .int .i64 ((0 : Nat) : Int), .int .i64 0]) (ca := [.pointer (some ⟨b3, 0, none⟩), .pointer (some ⟨b2, 0, none⟩), .pointer (some ⟨b4, 0, none⟩)]) cb64 rfl rfl) rfl hrec ?_)
        rintro e w2 ⟨b, rfl, hkeep, ⟨rfl, G2, L2, le2, hS, hO, hJ⟩ | ⟨rfl, hjx⟩⟩
        · refine ⟨_, rfl, hkeep, ?_⟩
          refine WL_val (rn_not rfl) rfl ?_
          refine WL_nil ?_
          refine WC_condF (!true) rfl rfl ?_
          refine WC_skip ?_
          rw [← hfq] at hJ
          refine ⟨_, G2, L2, _, upds_self _ _ ⟨rfl, rfl, rfl, trivial⟩, hle2.trans le2, hS, hO, hJ, ?_, ?_⟩
          · rw [List.length_append] at hlen; omega
          · rw [← List.drop_drop, hd, List.drop_left]
        · refine ⟨_, rfl, hkeep, ?_⟩
          refine WL_val (rn_not rfl) rfl ?_
          refine WL_nil ?_
          refine WC_condT (!false) rfl rfl ?_
          refine WC_ret ?_
          exact fun hkp => ⟨⟨_, rfl⟩, hkp, .inr hjx⟩
      · rintro F w3 ⟨Fb, G3, L3, k3, rfl, hle3, hS, hO, hJ, hlen3, hd3⟩
        refine WC_region ?_
        refine WL_val (rn_add rfl rfl) rfl ?_
        refine WL_val (rn_move (v := .int .i64 (IntKind.i64.wrap ((q : Int) + 1))) rfl) rfl ?_
        refine WL_nil ?_
        have hw2 : IntKind.i64.wrap ((q : Int) + 1) = ((q + 1 : Nat) : Int) := by
          rw [IntKind.wrap_i64]; omega
        rw [hw2]
        exact ⟨q + 1, rfl, _, G3, L3, k3, upds_self _ _ ⟨rfl, rfl, rfl, trivial⟩, hle3, hS, hO, hJ, hlt, hlen3, hd3⟩
    · have hge : n ≤ q := by have := of_decide_eq_false hb; omega
      refine WC_exit rfl ?_
      intro hkp
      rw [rng_nil hge] at hlen
      simp only [List.length_nil, Nat.add_zero] at hlen
      have hO := hO.drop 0
      have hO := hO.drop 0
      have hO := hO.drop 0
      have hO : Owns G' w' B L' := hO
      exact ⟨⟨_, rfl⟩, hkp, .inl ⟨G', L', hle2, hS, hO, hlen ▸ hJ⟩⟩
end Go.Proofs.YtcaflmilfhhikaaGreatDoor
