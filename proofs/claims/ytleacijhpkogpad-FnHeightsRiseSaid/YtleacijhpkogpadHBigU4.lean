/- The law on who rises (FnHeightsRise),a part of its walk: the two bodies say the same; mountains and ranks. -/
import Derived.Test.YtleacijhpkogpadHGood
import Derived.Test.YtleacijhpkogpadHLawVR
import Derived.Test.YtleacijhpkogpadHRiseP
import Derived.Deep.DeepCutAuto
import Derived.Deep.CutRange
import Derived.Lib.OthersKept
import Derived.Deep.QuietTactic
import Derived.BigQuiet
import Derived.IntWalk
variable {A2 A4 A5 A6 A7 A8 A9 Aa Ab Ac Ad Ae Af Ag Ah Ai Aj Ak Al Am An Ao Ap Aq Ar As At Au Av Aw Ax Ay Az B0 B1 B2 B3 B4 B5 B6 B7 B8 B9 Ba Bb Bc Bd Be Bf Bg Bh Bi Bj Bk Bl Bm Bn Bo Bp Bq Br Bs Bt Bu Bv Bw Bx By Bz C0 C3 C4 C5 C6 C7 C8 C9 Ca Cb Cc Cd Ce Cf Cg Ch Ci Cj Ck Cl Cm Cn Co Cp Cq Cr Cs Ct Cu Cv Cw Cx Cy Cz D0 D1 D2 D3 D4 D5 D6 D7 D8 D9 Da Db Dc Dd De Df Dg Dh Di Dj Dk Dl Dm Dn Do Dp Dq Dr Ds Dt Du Dv Dw Dx Dy Dz E0 E1 E2 E3 E4 E5 E6 E7 E8 E9 Ea Eb Ec Ed Ee Ef Eg Eh Ei Ej Ek El Em En Eo Ep Er Es Et Eu Ev Ew Ex Ey Ez F0 F1 F2 F3 F4 F5 F6 F7 F8 F9 Fa Fb Fc Fd Fe Ff Fg Fh Fi Fj Fk Fl Fm Fn Fo Fp Fq Fr Fs Ft Fu Fv Fw Fx Fy Fz G0 G1 G2 G3 G4 G5 G6 G7 G8 G9 Ga Gb Gc Gd Ge Gf Gg Gh Gi Gj Gk Gl Gm Gn Gp Gq Gr Gs Gt Gu Gv Gw Gx Gy Gz H0 H1 H2 H3 H4 H5 H6 H7 H8 H9 Ha Hb Hc Hd He Hf Hg Hh Hi Hj Hk Hl Hm Hn Ho Hp Hq Hr Hs Ht Hu Hv Hw Hx Hy Hz I0 I2 I3 I4 I5 I6 I7 I8 I9 Ia Ib Ic Ie If Ig Ih Ii Ij Ik Il Im In Io Ip Iq Ir Is It Iu Iv Iw Ix Iy Iz J0 J1 J2 J3 J4 J5 J6 J7 J8 J9 Ja Jb Jc Jd Je Jf Jg Jh Ji Jj Jk Jl Jm Jn Jo Jp Jq Jr Js Jt Ju Jv Jw Jx Jy Jz K0 K1 K3 K4 K5 K6 K7 K8 K9 Ka Kb Kc Ke Kf Kg Kh Ki Kj Kk Kl Km Kn Ko Kp Kq Kr Ks Kt Ku Kv Kw Kx Ky Kz L0 L1 L2 L3 L4 L5 L6 L7 L8 L9 La Lb Lc Ld Le Lf Lg Lh Li Lj Lk Ll Lm Ln Lo Lp Lq Lr Ls Lt Lu Lv Lw Lx Ly Lz M0 M1 M2 M3 M4 M5 M6 M7 M8 M9 Ma Mb Mc Md Me Mf Mg Mh Mi Mj Mk Ml Mm Mn Mo Mp Mq Mr Ms Mt Mu Mv Mw Mx My Mz N0 N1 N2 N3 N4 N5 N6 N7 N8 N9 Na Nb Nc Nd Nf Ng Nh Ni Nj Nk Nl Nm Nn No Np Nq Nr Ns Nt Nu Nv Nw Nx Ny Nz O0 O1 O2 O3 O4 O5 O6 O7 O8 O9 Oa Ob Oc Od Oe Of Og Oh Oi Oj Ok Ol Om On Oo Op Oq Os Ot Ou Ov Ow Ox Oy Oz Pa Pb Pc Pd Pe Pf Pg Ph Pi Pj Pk Pl Pm Pn Po Pp Pq : Go.Value}
set_option linter.unusedVariables false
set_option linter.unusedSimpArgs false
set_option maxHeartbeats 8000000
set_option maxRecDepth 1000000
namespace Go.Proofs.Ytleacijhpkogpad.HBigU
open Go.RowKit YtleacijhpkogpadW.PrintWords YtleacijhpkogpadW.PrintLast YtleacijhpkogpadW.PrintMore Part HImpl

theorem part13 (l : List Int) (A0 : Option Addr) (c0 : Nat) (g : Bool) (mo le di : Int) (wb : World) (wr : World)
    (HB : Aside0 (Below wb.heap.size wb wr))
    (S0 : Aside0 (∀ W,Below wb.heap.size wb W → Calls Try.prog 17 #[Ag,Ai] W fun e w' => e = .returned (.bool true) ∧ Drawn0 W w')) (S1 : Aside0 (∀ W,Below wb.heap.size wb W → Calls Try.prog 17 #[Aw,Ay] W fun e w' => e = .returned (.bool true) ∧ Drawn0 W w'))
    (I1 : Aside0 (∀ W,Below wb.heap.size wb W → Calls Try.prog 19 #[.slice A0 l.length c0] W fun e w' => e = .returned (.bool g) ∧ Below W.heap.size W w'))
    (Q' : Exit → Act → World → Prop) (K' : Act → World → Prop)
    (hK : ∀ ⦃u129 u130 u131 u132 u133 u134 u135 u136 u137 u138 u139 u140 u141 u142 u143 u144 u145 u146 u147 u148 u149 u150 u151 u152 u153 u154 u155 u156 u157 u158 u159 u160 u161 u162 u163 u164 u165 u166 u167 u168 u169 u170 u171 u172 u173 u174 u175 u176 u177 u178 u179 u180 u181 u182 u183 u184 u185 u186 u187 u188 u189 u190 u191 u192 u193 u194 u195 u196 u197 u198 u199 u200 u201 u202 u203 u204 : Value⦄ ⦃w' : World⦄,u204 = .bool false → Aside0 (Below wb.heap.size wb w') → K' ⟨#[Aa,Ab,Ac,Ad,Ae,.slice A0 l.length c0,Ag,.bool g,Ai,.bool g,.int .i64 mo,.bool g,.int .i64 mo,.bool g,.int .i64 le,.bool g,.int .i64 le,.bool g,.int .i64 di,.bool g,.int .i64 di,.bool g,Aw,.bool g,Ay,.bool g,A2,A4,A5,A6,A7,A8,A9,Ba,Bb,Bc,Bd,Be,Bf,Bg,Bh,Bi,Bj,Bk,Bl,Bm,Bn,Bo,Bp,Bq,Br,Bs,Bt,Bu,Bv,Bw,Bx,By,Bz,B0,B1,B2,B3,B4,B5,B6,B7,B8,B9,Ca,Cb,Cc,Cd,Ce,Cf,Cg,Ch,Ci,Cj,Ck,Cl,Cm,Cn,Co,Cp,Cq,Cr,Cs,Ct,Cu,Cv,Cw,Cx,Cy,Cz,C0,C3,C4,C5,C6,C7,C8,C9,Da,Db,Dc,Dd,De,Df,Dg,Dh,Di,Dj,Dk,Dl,Dm,Dn,Do,Dp,Dq,Dr,Ds,Dt,Du,Dv,Dw,Dx,Dy,Dz,u129,u130,u131,u132,u133,u134,u135,u136,u137,u138,u139,u140,u141,u142,u143,u144,u145,u146,u147,u148,u149,u150,u151,u152,u153,u154,u155,u156,u157,u158,u159,u160,u161,u162,u163,u164,u165,u166,u167,u168,u169,u170,u171,u172,u173,u174,u175,u176,u177,u178,u179,u180,u181,u182,u183,u184,u185,u186,u187,u188,u189,u190,u191,u192,u193,u194,u195,u196,u197,u198,u199,u200,u201,u202,u203,u204,F5,F6,F7,F8,F9,Ga,Gb,Gc,Gd,Ge,Gf,Gg,Gh,Gi,Gj,Gk,Gl,Gm,Gn,Gp,Gq,Gr,Gs,Gt,Gu,Gv,Gw,Gx,Gy,Gz,G0,G1,G2,G3,G4,G5,G6,G7,G8,G9,Ha,Hb,Hc,Hd,He,Hf,Hg,Hh,Hi,Hj,Hk,Hl,Hm,Hn,Ho,Hp,Hq,Hr,Hs,Ht,Hu,Hv,Hw,Hx,Hy,Hz,H0,H1,H2,H3,H4,H5,H6,H7,H8,H9,Ia,Ib,Ic,Ie,If,Ig,Ih,Ii,Ij,Ik,Il,Im,In,Io,Ip,Iq,Ir,Is,It,Iu,Iv,Iw,Ix,Iy,Iz,I0,I2,I3,I4,I5,I6,I7,I8,I9,Ja,Jb,Jc,Jd,Je,Jf,Jg,Jh,Ji,Jj,Jk,Jl,Jm,Jn,Jo,Jp,Jq,Jr,Js,Jt,Ju,Jv,Jw,Jx,Jy,Jz,J0,J1,J2,J3,J4,J5,J6,J7,J8,J9,Ka,Kb,Kc,Ke,Kf,Kg,Kh,Ki,Kj,Kk,Kl,Km,Kn,Ko,Kp,Kq,Kr,Ks,Kt,Ku,Kv,Kw,Kx,Ky,Kz,K0,K1,K3,K4,K5,K6,K7,K8,K9,La,Lb,Lc,Ld,Le,Lf,Lg,Lh,Li,Lj,Lk,Ll,Lm,Ln,Lo,Lp,Lq,Lr,Ls,Lt,Lu,Lv,Lw,Lx,Ly,Lz,L0,L1,L2,L3,L4,L5,L6,L7,L8,L9,Ma,Mb,Mc,Md,Me,Mf,Mg,Mh,Mi,Mj,Mk,Ml,Mm,Mn,Mo,Mp,Mq,Mr,Ms,Mt,Mu,Mv,Mw,Mx,My,Mz,M0,M1,M2,M3,M4,M5,M6,M7,M8,M9,Na,Nb,Nc,Nd,Nf,Ng,Nh,Ni,Nj,Nk,Nl,Nm,Nn,No,Np,Nq,Nr,Ns,Nt,Nu,Nv,Nw,Nx,Ny,Nz,N0,N1,N2,N3,N4,N5,N6,N7,N8,N9,Oa,Ob,Oc,Od,Oe,Of,Og,Oh,Oi,Oj,Ok,Ol,Om,On,Oo,Op,Oq,Os,Ot,Ou,Ov,Ow,Ox,Oy,Oz,O0,O1,O2,O3,O4,O5,O6,O7,O8,O9,Pa,Pb,Pc,Pd,Pe,Pf,Pg,Ph,Pi,Pj,Pk,Pl,Pm,Pn,Po,Pp,Pq],[]⟩ w') :
    Code.wp Try.prog (regOf Try.f4 14) (Exit.then K' Q') ⟨#[Aa,Ab,Ac,Ad,Ae,.slice A0 l.length c0,Ag,.bool g,Ai,.bool g,.int .i64 mo,.bool g,.int .i64 mo,.bool g,.int .i64 le,.bool g,.int .i64 le,.bool g,.int .i64 di,.bool g,.int .i64 di,.bool g,Aw,.bool g,Ay,.bool g,A2,A4,A5,A6,A7,A8,A9,Ba,Bb,Bc,Bd,Be,Bf,Bg,Bh,Bi,Bj,Bk,Bl,Bm,Bn,Bo,Bp,Bq,Br,Bs,Bt,Bu,Bv,Bw,Bx,By,Bz,B0,B1,B2,B3,B4,B5,B6,B7,B8,B9,Ca,Cb,Cc,Cd,Ce,Cf,Cg,Ch,Ci,Cj,Ck,Cl,Cm,Cn,Co,Cp,Cq,Cr,Cs,Ct,Cu,Cv,Cw,Cx,Cy,Cz,C0,C3,C4,C5,C6,C7,C8,C9,Da,Db,Dc,Dd,De,Df,Dg,Dh,Di,Dj,Dk,Dl,Dm,Dn,Do,Dp,Dq,Dr,Ds,Dt,Du,Dv,Dw,Dx,Dy,Dz,D0,D1,D2,D3,D4,D5,D6,D7,D8,D9,Ea,Eb,Ec,Ed,Ee,Ef,Eg,Eh,Ei,Ej,Ek,El,Em,En,Eo,Ep,Er,Es,Et,Eu,Ev,Ew,Ex,Ey,Ez,E0,E1,E2,E3,E4,E5,E6,E7,E8,E9,Fa,Fb,Fc,Fd,Fe,Ff,Fg,Fh,Fi,Fj,Fk,Fl,Fm,Fn,Fo,Fp,Fq,Fr,Fs,Ft,Fu,Fv,Fw,Fx,Fy,Fz,F0,F1,F2,F3,F4,F5,F6,F7,F8,F9,Ga,Gb,Gc,Gd,Ge,Gf,Gg,Gh,Gi,Gj,Gk,Gl,Gm,Gn,Gp,Gq,Gr,Gs,Gt,Gu,Gv,Gw,Gx,Gy,Gz,G0,G1,G2,G3,G4,G5,G6,G7,G8,G9,Ha,Hb,Hc,Hd,He,Hf,Hg,Hh,Hi,Hj,Hk,Hl,Hm,Hn,Ho,Hp,Hq,Hr,Hs,Ht,Hu,Hv,Hw,Hx,Hy,Hz,H0,H1,H2,H3,H4,H5,H6,H7,H8,H9,Ia,Ib,Ic,Ie,If,Ig,Ih,Ii,Ij,Ik,Il,Im,In,Io,Ip,Iq,Ir,Is,It,Iu,Iv,Iw,Ix,Iy,Iz,I0,I2,I3,I4,I5,I6,I7,I8,I9,Ja,Jb,Jc,Jd,Je,Jf,Jg,Jh,Ji,Jj,Jk,Jl,Jm,Jn,Jo,Jp,Jq,Jr,Js,Jt,Ju,Jv,Jw,Jx,Jy,Jz,J0,J1,J2,J3,J4,J5,J6,J7,J8,J9,Ka,Kb,Kc,Ke,Kf,Kg,Kh,Ki,Kj,Kk,Kl,Km,Kn,Ko,Kp,Kq,Kr,Ks,Kt,Ku,Kv,Kw,Kx,Ky,Kz,K0,K1,K3,K4,K5,K6,K7,K8,K9,La,Lb,Lc,Ld,Le,Lf,Lg,Lh,Li,Lj,Lk,Ll,Lm,Ln,Lo,Lp,Lq,Lr,Ls,Lt,Lu,Lv,Lw,Lx,Ly,Lz,L0,L1,L2,L3,L4,L5,L6,L7,L8,L9,Ma,Mb,Mc,Md,Me,Mf,Mg,Mh,Mi,Mj,Mk,Ml,Mm,Mn,Mo,Mp,Mq,Mr,Ms,Mt,Mu,Mv,Mw,Mx,My,Mz,M0,M1,M2,M3,M4,M5,M6,M7,M8,M9,Na,Nb,Nc,Nd,Nf,Ng,Nh,Ni,Nj,Nk,Nl,Nm,Nn,No,Np,Nq,Nr,Ns,Nt,Nu,Nv,Nw,Nx,Ny,Nz,N0,N1,N2,N3,N4,N5,N6,N7,N8,N9,Oa,Ob,Oc,Od,Oe,Of,Og,Oh,Oi,Oj,Ok,Ol,Om,On,Oo,Op,Oq,Os,Ot,Ou,Ov,Ow,Ox,Oy,Oz,O0,O1,O2,O3,O4,O5,O6,O7,O8,O9,Pa,Pb,Pc,Pd,Pe,Pf,Pg,Ph,Pi,Pj,Pk,Pl,Pm,Pn,Po,Pp,Pq],[]⟩ wr := by
  conv => arg 2; whnf
  have HKK := Aside0.mk hK
  clear hK
  cases g with
  | false => simp only [List.append]; go_wp2_with (first | (go_at_call 17; with_reducible refine (S0.out _ (by repeat first|(with_reducible first|exact HB.out|apply below_alloc|apply pw_below_drewN|apply below_drew1)|exact HB.out)).mono ?_; rintro e w1 ⟨rfl,⟨nd1,rfl⟩⟩; try dsimp only) | (go_at_call 17; with_reducible refine (S1.out _ (by repeat first|(with_reducible first|exact HB.out|apply below_alloc|apply pw_below_drewN|apply below_drew1)|exact HB.out)).mono ?_; rintro e w2 ⟨rfl,⟨nd2,rfl⟩⟩; try dsimp only) | (go_at_call 19; with_reducible refine (I1.out _ (by repeat first|(with_reducible first|exact HB.out|apply below_alloc|apply pw_below_drewN|apply below_drew1)|exact HB.out)).mono ?_; rintro e w6 ⟨rfl,hb⟩; have HBn := Aside0.mk (below_step (by repeat first|(with_reducible first|exact HB.out|apply below_alloc|apply pw_below_drewN|apply below_drew1)|exact HB.out) hb); clear hb HB; have HB := HBn; clear HBn; try dsimp only)); exact HKK.out rfl ⟨(by repeat first|(with_reducible first|exact HB.out|apply below_alloc|apply pw_below_drewN|apply below_drew1)|exact HB.out)⟩
  | true => simp only [List.append]; go_wp2_with (first | (go_at_call 17; with_reducible refine (S0.out _ (by repeat first|(with_reducible first|exact HB.out|apply below_alloc|apply pw_below_drewN|apply below_drew1)|exact HB.out)).mono ?_; rintro e w1 ⟨rfl,⟨nd1,rfl⟩⟩; try dsimp only) | (go_at_call 17; with_reducible refine (S1.out _ (by repeat first|(with_reducible first|exact HB.out|apply below_alloc|apply pw_below_drewN|apply below_drew1)|exact HB.out)).mono ?_; rintro e w2 ⟨rfl,⟨nd2,rfl⟩⟩; try dsimp only) | (go_at_call 19; with_reducible refine (I1.out _ (by repeat first|(with_reducible first|exact HB.out|apply below_alloc|apply pw_below_drewN|apply below_drew1)|exact HB.out)).mono ?_; rintro e w6 ⟨rfl,hb⟩; have HBn := Aside0.mk (below_step (by repeat first|(with_reducible first|exact HB.out|apply below_alloc|apply pw_below_drewN|apply below_drew1)|exact HB.out) hb); clear hb HB; have HB := HBn; clear HBn; try dsimp only)); exact HKK.out rfl ⟨(by repeat first|(with_reducible first|exact HB.out|apply below_alloc|apply pw_below_drewN|apply below_drew1)|exact HB.out)⟩
theorem part17 (lr rk : List Int) (n : Nat) (mo le Sm : Int) (AL AK : Option Addr) (cL cK : Nat) (wb : World) (wr : World)
    (HB : Aside0 (Below wb.heap.size wb wr))
    (h40 : n ≤ 40) (h1 : 0 < lr.length) (h2 : (lr.length : Int) ≤ mo) (h3 : mo ≤ (n : Int)) (HLE : Aside0 (le = (n : Int) - mo)) (HKL : Aside0 (rk.length = n)) (HSM : Aside0 ((n : Int) * ((n : Int) - 1) = 2 * Sm)) (hS : 0 ≤ Sm ∧ Sm ≤ 1000000)
    (HV1 : Aside0 (∀ W,Below wb.heap.size wb W → Calls Try.prog 21 #[.slice AL lr.length cL] W fun e w' => e = .returned (.bool true) ∧ Drawn0 W w')) (HV2 : Aside0 (∀ W,Below wb.heap.size wb W → Calls Try.prog 42 #[.slice AK rk.length cK] W fun e w' => e = .returned (.int .i64 Sm) ∧ Drawn0 W w'))
    (Q' : Exit → Act → World → Prop) (K' : Act → World → Prop)
    (hK : ∀ ⦃P4 P5 P6 P7 P8 P9 Qa Qb Qc Qd Qe Qf Qg Qh Qi Qj Qk Ql Qm Qn Qo Qp Qq Qr Qs Qt Qu Qv Qw Qx Qy Qz Q0 Q1 Q2 Q3 Q4 Q5 Q6 Q7 Q8 Q9 : Value⦄ ⦃w' : World⦄,Q9 = .bool false → Aside0 (Below wb.heap.size wb w') → K' ⟨#[Aa,Ab,Ac,Ad,Ae,Af,.slice AL lr.length cL,Ah,Ai,Aj,.int .i64 mo,Al,Am,An,.int .i64 le,Ap,Aq,Ar,As,At,Au,Av,.slice AK rk.length cK,Ax,Ay,Az,.int .i64 (n : Int),A4,A5,A6,A7,A8,A9,Ba,Bb,Bc,Bd,Be,Bf,Bg,Bh,Bi,Bj,Bk,Bl,Bm,Bn,Bo,Bp,Bq,Br,Bs,Bt,Bu,Bv,Bw,Bx,By,Bz,B0,B1,B2,B3,B4,B5,B6,B7,B8,B9,Ca,Cb,Cc,Cd,Ce,Cf,Cg,Ch,Ci,Cj,Ck,Cl,Cm,Cn,Co,Cp,Cq,Cr,Cs,Ct,Cu,Cv,Cw,Cx,Cy,Cz,C0,C3,C4,C5,C6,C7,C8,C9,Da,Db,Dc,Dd,De,Df,Dg,Dh,Di,Dj,Dk,Dl,Dm,Dn,Do,Dp,Dq,Dr,Ds,Dt,Du,Dv,Dw,Dx,Dy,Dz,D0,D1,D2,D3,D4,D5,D6,D7,D8,D9,Ea,Eb,Ec,Ed,Ee,Ef,Eg,Eh,Ei,Ej,Ek,El,Em,En,Eo,Ep,Er,Es,Et,Eu,Ev,Ew,Ex,Ey,Ez,E0,E1,E2,E3,E4,E5,E6,E7,E8,E9,Fa,Fb,Fc,Fd,Fe,Ff,Fg,Fh,Fi,Fj,Fk,Fl,Fm,Fn,Fo,Fp,Fq,Fr,Fs,Ft,Fu,Fv,Fw,Fx,Fy,Fz,F0,F1,F2,F3,F4,F5,F6,F7,P4,P5,P6,P7,P8,P9,Qa,Qb,Qc,Qd,Qe,Qf,Qg,Qh,Qi,Qj,Qk,Ql,Qm,Qn,Qo,Qp,Qq,Qr,Qs,Qt,Qu,Qv,Qw,Qx,Qy,Qz,Q0,Q1,Q2,Q3,Q4,Q5,Q6,Q7,Q8,Q9,Hf,Hg,Hh,Hi,Hj,Hk,Hl,Hm,Hn,Ho,Hp,Hq,Hr,Hs,Ht,Hu,Hv,Hw,Hx,Hy,Hz,H0,H1,H2,H3,H4,H5,H6,H7,H8,H9,Ia,Ib,Ic,Ie,If,Ig,Ih,Ii,Ij,Ik,Il,Im,In,Io,Ip,Iq,Ir,Is,It,Iu,Iv,Iw,Ix,Iy,Iz,I0,I2,I3,I4,I5,I6,I7,I8,I9,Ja,Jb,Jc,Jd,Je,Jf,Jg,Jh,Ji,Jj,Jk,Jl,Jm,Jn,Jo,Jp,Jq,Jr,Js,Jt,Ju,Jv,Jw,Jx,Jy,Jz,J0,J1,J2,J3,J4,J5,J6,J7,J8,J9,Ka,Kb,Kc,Ke,Kf,Kg,Kh,Ki,Kj,Kk,Kl,Km,Kn,Ko,Kp,Kq,Kr,Ks,Kt,Ku,Kv,Kw,Kx,Ky,Kz,K0,K1,K3,K4,K5,K6,K7,K8,K9,La,Lb,Lc,Ld,Le,Lf,Lg,Lh,Li,Lj,Lk,Ll,Lm,Ln,Lo,Lp,Lq,Lr,Ls,Lt,Lu,Lv,Lw,Lx,Ly,Lz,L0,L1,L2,L3,L4,L5,L6,L7,L8,L9,Ma,Mb,Mc,Md,Me,Mf,Mg,Mh,Mi,Mj,Mk,Ml,Mm,Mn,Mo,Mp,Mq,Mr,Ms,Mt,Mu,Mv,Mw,Mx,My,Mz,M0,M1,M2,M3,M4,M5,M6,M7,M8,M9,Na,Nb,Nc,Nd,Nf,Ng,Nh,Ni,Nj,Nk,Nl,Nm,Nn,No,Np,Nq,Nr,Ns,Nt,Nu,Nv,Nw,Nx,Ny,Nz,N0,N1,N2,N3,N4,N5,N6,N7,N8,N9,Oa,Ob,Oc,Od,Oe,Of,Og,Oh,Oi,Oj,Ok,Ol,Om,On,Oo,Op,Oq,Os,Ot,Ou,Ov,Ow,Ox,Oy,Oz,O0,O1,O2,O3,O4,O5,O6,O7,O8,O9,Pa,Pb,Pc,Pd,Pe,Pf,Pg,Ph,Pi,Pj,Pk,Pl,Pm,Pn,Po,Pp,Pq],[]⟩ w') :
    Code.wp Try.prog (regOf Try.f4 18) (Exit.then K' Q') ⟨#[Aa,Ab,Ac,Ad,Ae,Af,.slice AL lr.length cL,Ah,Ai,Aj,.int .i64 mo,Al,Am,An,.int .i64 le,Ap,Aq,Ar,As,At,Au,Av,.slice AK rk.length cK,Ax,Ay,Az,.int .i64 (n : Int),A4,A5,A6,A7,A8,A9,Ba,Bb,Bc,Bd,Be,Bf,Bg,Bh,Bi,Bj,Bk,Bl,Bm,Bn,Bo,Bp,Bq,Br,Bs,Bt,Bu,Bv,Bw,Bx,By,Bz,B0,B1,B2,B3,B4,B5,B6,B7,B8,B9,Ca,Cb,Cc,Cd,Ce,Cf,Cg,Ch,Ci,Cj,Ck,Cl,Cm,Cn,Co,Cp,Cq,Cr,Cs,Ct,Cu,Cv,Cw,Cx,Cy,Cz,C0,C3,C4,C5,C6,C7,C8,C9,Da,Db,Dc,Dd,De,Df,Dg,Dh,Di,Dj,Dk,Dl,Dm,Dn,Do,Dp,Dq,Dr,Ds,Dt,Du,Dv,Dw,Dx,Dy,Dz,D0,D1,D2,D3,D4,D5,D6,D7,D8,D9,Ea,Eb,Ec,Ed,Ee,Ef,Eg,Eh,Ei,Ej,Ek,El,Em,En,Eo,Ep,Er,Es,Et,Eu,Ev,Ew,Ex,Ey,Ez,E0,E1,E2,E3,E4,E5,E6,E7,E8,E9,Fa,Fb,Fc,Fd,Fe,Ff,Fg,Fh,Fi,Fj,Fk,Fl,Fm,Fn,Fo,Fp,Fq,Fr,Fs,Ft,Fu,Fv,Fw,Fx,Fy,Fz,F0,F1,F2,F3,F4,F5,F6,F7,F8,F9,Ga,Gb,Gc,Gd,Ge,Gf,Gg,Gh,Gi,Gj,Gk,Gl,Gm,Gn,Gp,Gq,Gr,Gs,Gt,Gu,Gv,Gw,Gx,Gy,Gz,G0,G1,G2,G3,G4,G5,G6,G7,G8,G9,Ha,Hb,Hc,Hd,He,Hf,Hg,Hh,Hi,Hj,Hk,Hl,Hm,Hn,Ho,Hp,Hq,Hr,Hs,Ht,Hu,Hv,Hw,Hx,Hy,Hz,H0,H1,H2,H3,H4,H5,H6,H7,H8,H9,Ia,Ib,Ic,Ie,If,Ig,Ih,Ii,Ij,Ik,Il,Im,In,Io,Ip,Iq,Ir,Is,It,Iu,Iv,Iw,Ix,Iy,Iz,I0,I2,I3,I4,I5,I6,I7,I8,I9,Ja,Jb,Jc,Jd,Je,Jf,Jg,Jh,Ji,Jj,Jk,Jl,Jm,Jn,Jo,Jp,Jq,Jr,Js,Jt,Ju,Jv,Jw,Jx,Jy,Jz,J0,J1,J2,J3,J4,J5,J6,J7,J8,J9,Ka,Kb,Kc,Ke,Kf,Kg,Kh,Ki,Kj,Kk,Kl,Km,Kn,Ko,Kp,Kq,Kr,Ks,Kt,Ku,Kv,Kw,Kx,Ky,Kz,K0,K1,K3,K4,K5,K6,K7,K8,K9,La,Lb,Lc,Ld,Le,Lf,Lg,Lh,Li,Lj,Lk,Ll,Lm,Ln,Lo,Lp,Lq,Lr,Ls,Lt,Lu,Lv,Lw,Lx,Ly,Lz,L0,L1,L2,L3,L4,L5,L6,L7,L8,L9,Ma,Mb,Mc,Md,Me,Mf,Mg,Mh,Mi,Mj,Mk,Ml,Mm,Mn,Mo,Mp,Mq,Mr,Ms,Mt,Mu,Mv,Mw,Mx,My,Mz,M0,M1,M2,M3,M4,M5,M6,M7,M8,M9,Na,Nb,Nc,Nd,Nf,Ng,Nh,Ni,Nj,Nk,Nl,Nm,Nn,No,Np,Nq,Nr,Ns,Nt,Nu,Nv,Nw,Nx,Ny,Nz,N0,N1,N2,N3,N4,N5,N6,N7,N8,N9,Oa,Ob,Oc,Od,Oe,Of,Og,Oh,Oi,Oj,Ok,Ol,Om,On,Oo,Op,Oq,Os,Ot,Ou,Ov,Ow,Ox,Oy,Oz,O0,O1,O2,O3,O4,O5,O6,O7,O8,O9,Pa,Pb,Pc,Pd,Pe,Pf,Pg,Ph,Pi,Pj,Pk,Pl,Pm,Pn,Po,Pp,Pq],[]⟩ wr := by
  conv => arg 2; whnf
  have HKK := Aside0.mk hK
  clear hK
  have hle := HLE.out
  subst hle
  have hkl := HKL.out
  subst hkl
  have z1 : IntKind.i64.wrap ((rk.length : Int) - 1) = (rk.length : Int) - 1 := IntWalk.i64_in _ (by omega)
  have z2 : IntKind.i64.wrap ((rk.length : Int) - mo) = (rk.length : Int) - mo := IntWalk.i64_in _ (by omega)
  have z3 : IntKind.i64.wrap ((rk.length : Int) * ((rk.length : Int) - 1)) = 2 * Sm := by rw [HSM.out]; exact IntWalk.i64_in _ (by omega)
  have z4 : (2 * Sm).tdiv 2 = Sm := by rw [Int.tdiv_eq_ediv_of_nonneg (by omega)]; omega
  have z5 : 2 * Sm / 2 = Sm := by omega
  have y1 : decide ((lr.length : Int) < 1) = false := by simp; omega
  have y2 : decide (mo < (lr.length : Int)) = false := by simp; omega
  have y3 : decide ((rk.length : Int) < mo) = false := by simp; omega
  clear HLE HKL HSM
  go_wp2_with (first | (go_at_call 21; with_reducible refine (HV1.out _ (by repeat first|(with_reducible first|exact HB.out|apply below_alloc|apply pw_below_drewN|apply below_drew1)|exact HB.out)).mono ?_; rintro e w1 ⟨rfl,⟨nd1,rfl⟩⟩; try dsimp only) | (go_at_call 42; with_reducible refine (HV2.out _ (by repeat first|(with_reducible first|exact HB.out|apply below_alloc|apply pw_below_drewN|apply below_drew1)|exact HB.out)).mono ?_; rintro e w2 ⟨rfl,⟨nd2,rfl⟩⟩; try dsimp only))
  exact HKK.out rfl ⟨(by repeat first|(with_reducible first|exact HB.out|apply below_alloc|apply pw_below_drewN|apply below_drew1)|exact HB.out)⟩
end Go.Proofs.Ytleacijhpkogpad.HBigU
/- The law on who rises (FnHeightsRise),a part of its walk: who rises rises. -/
namespace Go.Proofs.Ytleacijhpkogpad.HBigU
open Go.RowKit YtleacijhpkogpadW.PrintWords YtleacijhpkogpadW.PrintLast YtleacijhpkogpadW.PrintMore Part HImpl

theorem partR (l lr : List Int) (A0 AL : Option Addr) (c0 cL : Nat) (wb : World) (wr : World)
    (HB : Aside0 (Below wb.heap.size wb wr))
    (h40 : l.length ≤ 40) (hlr : lr.length ≤ 40) (HC : Aside0 (Kd.C (Kd.int .i64) wb A0 l.length l)) (HCL : Aside0 (Kd.C (Kd.int .i64) wb AL lr.length lr))
    (HRI : Aside0 (∀ i j : Nat,i + 1 = j → j < lr.length → ∃ a b : Nat,rd lr (i : Int) = (a : Int) ∧ rd lr (j : Int) = (b : Int) ∧ a < l.length ∧ b < l.length ∧ rd l (a : Int) < rd l (b : Int)))
    (Q' : Exit → Act → World → Prop) (K' : Act → World → Prop)
    (hK : ∀ ⦃Pr Pt Ra Rb Rc Rd Re Rf Rg Rh Ri Rj Rk Rl Rm Rn Ro Rp Rq Rr Rs Rt Ru Rv : Value⦄ ⦃w' : World⦄,Aside0 (Below wb.heap.size wb w') → K' ⟨#[Aa,Ab,Ac,Ad,Pr,.slice A0 l.length c0,.slice AL lr.length cL,Ah,Ai,Aj,Ak,Al,Am,An,Ao,Ap,Aq,Ar,As,At,Au,Av,Aw,Ax,Ay,Az,A2,Pt,A5,A6,A7,A8,A9,Ba,Bb,Bc,Bd,Be,Bf,Bg,Bh,Bi,Bj,Bk,Bl,Bm,Bn,Bo,Bp,Bq,Br,Bs,Bt,Bu,Bv,Bw,Bx,By,Bz,B0,B1,B2,B3,B4,B5,B6,B7,B8,B9,Ca,Cb,Cc,Cd,Ce,Cf,Cg,Ch,Ci,Cj,Ck,Cl,Cm,Cn,Co,Cp,Cq,Cr,Cs,Ct,Cu,Cv,Cw,Cx,Cy,Cz,C0,C3,C4,C5,C6,C7,C8,C9,Da,Db,Dc,Dd,De,Df,Dg,Dh,Di,Dj,Dk,Dl,Dm,Dn,Do,Dp,Dq,Dr,Ds,Dt,Du,Dv,Dw,Dx,Dy,Dz,D0,D1,D2,D3,D4,D5,D6,D7,D8,D9,Ea,Eb,Ec,Ed,Ee,Ef,Eg,Eh,Ei,Ej,Ek,El,Em,En,Eo,Ep,Er,Es,Et,Eu,Ev,Ew,Ex,Ey,Ez,E0,E1,E2,E3,E4,E5,E6,E7,E8,E9,Fa,Fb,Fc,Fd,Fe,Ff,Fg,Fh,Fi,Fj,Fk,Fl,Fm,Fn,Fo,Fp,Fq,Fr,Fs,Ft,Fu,Fv,Fw,Fx,Fy,Fz,F0,F1,F2,F3,F4,F5,F6,F7,F8,F9,Ga,Gb,Gc,Gd,Ge,Gf,Gg,Gh,Gi,Gj,Gk,Gl,Gm,Gn,Gp,Gq,Gr,Gs,Gt,Gu,Gv,Gw,Gx,Gy,Gz,G0,G1,G2,G3,G4,G5,G6,G7,G8,G9,Ha,Hb,Hc,Hd,He,Ra,Rb,Rc,Rd,Re,Rf,Rg,Rh,Ri,Rj,Rk,Rl,Rm,Rn,Ro,Rp,Rq,Rr,Rs,Rt,Ru,Rv,H1,H2,H3,H4,H5,H6,H7,H8,H9,Ia,Ib,Ic,Ie,If,Ig,Ih,Ii,Ij,Ik,Il,Im,In,Io,Ip,Iq,Ir,Is,It,Iu,Iv,Iw,Ix,Iy,Iz,I0,I2,I3,I4,I5,I6,I7,I8,I9,Ja,Jb,Jc,Jd,Je,Jf,Jg,Jh,Ji,Jj,Jk,Jl,Jm,Jn,Jo,Jp,Jq,Jr,Js,Jt,Ju,Jv,Jw,Jx,Jy,Jz,J0,J1,J2,J3,J4,J5,J6,J7,J8,J9,Ka,Kb,Kc,Ke,Kf,Kg,Kh,Ki,Kj,Kk,Kl,Km,Kn,Ko,Kp,Kq,Kr,Ks,Kt,Ku,Kv,Kw,Kx,Ky,Kz,K0,K1,K3,K4,K5,K6,K7,K8,K9,La,Lb,Lc,Ld,Le,Lf,Lg,Lh,Li,Lj,Lk,Ll,Lm,Ln,Lo,Lp,Lq,Lr,Ls,Lt,Lu,Lv,Lw,Lx,Ly,Lz,L0,L1,L2,L3,L4,L5,L6,L7,L8,L9,Ma,Mb,Mc,Md,Me,Mf,Mg,Mh,Mi,Mj,Mk,Ml,Mm,Mn,Mo,Mp,Mq,Mr,Ms,Mt,Mu,Mv,Mw,Mx,My,Mz,M0,M1,M2,M3,M4,M5,M6,M7,M8,M9,Na,Nb,Nc,Nd,Nf,Ng,Nh,Ni,Nj,Nk,Nl,Nm,Nn,No,Np,Nq,Nr,Ns,Nt,Nu,Nv,Nw,Nx,Ny,Nz,N0,N1,N2,N3,N4,N5,N6,N7,N8,N9,Oa,Ob,Oc,Od,Oe,Of,Og,Oh,Oi,Oj,Ok,Ol,Om,On,Oo,Op,Oq,Os,Ot,Ou,Ov,Ow,Ox,Oy,Oz,O0,O1,O2,O3,O4,O5,O6,O7,O8,O9,Pa,Pb,Pc,Pd,Pe,Pf,Pg,Ph,Pi,Pj,Pk,Pl,Pm,Pn,Po,Pp,Pq],[]⟩ w') :
    Code.wp Try.prog (seqOf Try.f4 20) (Exit.then K' Q') ⟨#[Aa,Ab,Ac,Ad,Ae,.slice A0 l.length c0,.slice AL lr.length cL,Ah,Ai,Aj,Ak,Al,Am,An,Ao,Ap,Aq,Ar,As,At,Au,Av,Aw,Ax,Ay,Az,A2,A4,A5,A6,A7,A8,A9,Ba,Bb,Bc,Bd,Be,Bf,Bg,Bh,Bi,Bj,Bk,Bl,Bm,Bn,Bo,Bp,Bq,Br,Bs,Bt,Bu,Bv,Bw,Bx,By,Bz,B0,B1,B2,B3,B4,B5,B6,B7,B8,B9,Ca,Cb,Cc,Cd,Ce,Cf,Cg,Ch,Ci,Cj,Ck,Cl,Cm,Cn,Co,Cp,Cq,Cr,Cs,Ct,Cu,Cv,Cw,Cx,Cy,Cz,C0,C3,C4,C5,C6,C7,C8,C9,Da,Db,Dc,Dd,De,Df,Dg,Dh,Di,Dj,Dk,Dl,Dm,Dn,Do,Dp,Dq,Dr,Ds,Dt,Du,Dv,Dw,Dx,Dy,Dz,D0,D1,D2,D3,D4,D5,D6,D7,D8,D9,Ea,Eb,Ec,Ed,Ee,Ef,Eg,Eh,Ei,Ej,Ek,El,Em,En,Eo,Ep,Er,Es,Et,Eu,Ev,Ew,Ex,Ey,Ez,E0,E1,E2,E3,E4,E5,E6,E7,E8,E9,Fa,Fb,Fc,Fd,Fe,Ff,Fg,Fh,Fi,Fj,Fk,Fl,Fm,Fn,Fo,Fp,Fq,Fr,Fs,Ft,Fu,Fv,Fw,Fx,Fy,Fz,F0,F1,F2,F3,F4,F5,F6,F7,F8,F9,Ga,Gb,Gc,Gd,Ge,Gf,Gg,Gh,Gi,Gj,Gk,Gl,Gm,Gn,Gp,Gq,Gr,Gs,Gt,Gu,Gv,Gw,Gx,Gy,Gz,G0,G1,G2,G3,G4,G5,G6,G7,G8,G9,Ha,Hb,Hc,Hd,He,Hf,Hg,Hh,Hi,Hj,Hk,Hl,Hm,Hn,Ho,Hp,Hq,Hr,Hs,Ht,Hu,Hv,Hw,Hx,Hy,Hz,H0,H1,H2,H3,H4,H5,H6,H7,H8,H9,Ia,Ib,Ic,Ie,If,Ig,Ih,Ii,Ij,Ik,Il,Im,In,Io,Ip,Iq,Ir,Is,It,Iu,Iv,Iw,Ix,Iy,Iz,I0,I2,I3,I4,I5,I6,I7,I8,I9,Ja,Jb,Jc,Jd,Je,Jf,Jg,Jh,Ji,Jj,Jk,Jl,Jm,Jn,Jo,Jp,Jq,Jr,Js,Jt,Ju,Jv,Jw,Jx,Jy,Jz,J0,J1,J2,J3,J4,J5,J6,J7,J8,J9,Ka,Kb,Kc,Ke,Kf,Kg,Kh,Ki,Kj,Kk,Kl,Km,Kn,Ko,Kp,Kq,Kr,Ks,Kt,Ku,Kv,Kw,Kx,Ky,Kz,K0,K1,K3,K4,K5,K6,K7,K8,K9,La,Lb,Lc,Ld,Le,Lf,Lg,Lh,Li,Lj,Lk,Ll,Lm,Ln,Lo,Lp,Lq,Lr,Ls,Lt,Lu,Lv,Lw,Lx,Ly,Lz,L0,L1,L2,L3,L4,L5,L6,L7,L8,L9,Ma,Mb,Mc,Md,Me,Mf,Mg,Mh,Mi,Mj,Mk,Ml,Mm,Mn,Mo,Mp,Mq,Mr,Ms,Mt,Mu,Mv,Mw,Mx,My,Mz,M0,M1,M2,M3,M4,M5,M6,M7,M8,M9,Na,Nb,Nc,Nd,Nf,Ng,Nh,Ni,Nj,Nk,Nl,Nm,Nn,No,Np,Nq,Nr,Ns,Nt,Nu,Nv,Nw,Nx,Ny,Nz,N0,N1,N2,N3,N4,N5,N6,N7,N8,N9,Oa,Ob,Oc,Od,Oe,Of,Og,Oh,Oi,Oj,Ok,Ol,Om,On,Oo,Op,Oq,Os,Ot,Ou,Ov,Ow,Ox,Oy,Oz,O0,O1,O2,O3,O4,O5,O6,O7,O8,O9,Pa,Pb,Pc,Pd,Pe,Pf,Pg,Ph,Pi,Pj,Pk,Pl,Pm,Pn,Po,Pp,Pq],[]⟩ wr := by
  conv => arg 2; whnf
  have HKK := Aside0.mk hK
  clear hK
  go_wp2_with fail
  go_loopg [27] lr.length (fun kq v27 w' => ∃ j : Nat,v27 = .int .i64 (j : Int) ∧ Aside0 (1 ≤ j) ∧ Aside0 (kq + j = lr.length + 1) ∧ Aside0 (Below wb.heap.size wb w'))
  case atStart => exact ⟨1,rfl,⟨Nat.le_refl _⟩,⟨rfl⟩,⟨(by repeat first|(with_reducible first|exact HB.out|apply below_alloc|apply pw_below_drewN|apply below_drew1)|exact HB.out)⟩⟩
  case round =>
    clear HB
    obtain ⟨j,rfl,HJ1,HK,HB⟩ := hrel
    have hk := HK.out
    by_cases hi : j < lr.length
    · have HK0 := Aside0.mk hk
      have HI0 := Aside0.mk hi
      obtain ⟨i,ej⟩ : ∃ i,i + 1 = j := ⟨j - 1,by have := HJ1.out; omega⟩
      obtain ⟨a,b,f1,f2,f3,f4,f5⟩ := HRI.out i j ej hi
      obtain ⟨adr,e,hx1⟩ := Kd.at_int (Kd.C_below HCL.out HB.out) (i : Int) (by omega) (by omega)
      cases e
      rw [Int.toNat_natCast,f1] at hx1
      obtain ⟨adr2,e,hx2⟩ := Kd.at_int (Kd.C_below HCL.out HB.out) (j : Int) (by omega) (by omega)
      cases e
      rw [Int.toNat_natCast,f2] at hx2
      obtain ⟨ad,e,hx3⟩ := Kd.at_int (Kd.C_below HC.out HB.out) (a : Int) (by omega) (by omega)
      cases e
      rw [Int.toNat_natCast] at hx3
      obtain ⟨ad2,e,hx4⟩ := Kd.at_int (Kd.C_below HC.out HB.out) (b : Int) (by omega) (by omega)
      cases e
      rw [Int.toNat_natCast] at hx4
      have hw1 : IntKind.i64.wrap ((j : Int) - 1) = (i : Int) := by rw [IntWalk.i64_in _ (by omega)]; omega
      have hw2 : (j : Int) - 1 = (i : Int) := by omega
      have hw3 : IntKind.i64.wrap ((j : Int) + 1) = (j : Int) + 1 := IntWalk.i64_in _ (by omega)
      have hii : i < lr.length := by omega
      have d1 : decide (rd l (b : Int) ≤ rd l (a : Int)) = false := by simp; omega
      generalize rd l (a : Int) = y at hx3 d1
      generalize rd l (b : Int) = z at hx4 d1
      clear hk f1 f2 f5 ej
      go_upto_region 23 with fail
      go_quiet (fail)
      go_wp2_with fail
      go_roundg (lr.length - j)
      case measure => have := HK0.out; have := HI0.out; omega
      case rel => exact ⟨j + 1,by first | rfl | simp,⟨by omega⟩,⟨by have := HK0.out; have := HI0.out; omega⟩,⟨(by repeat first|(with_reducible first|exact HB.out|apply below_alloc|apply pw_below_drewN|apply below_drew1)|exact HB.out)⟩⟩
    · have hd : decide ((j : Int) < (lr.length : Int)) = false := by simp; omega
      go_wp2_with fail
      exact HKK.out ⟨(by repeat first|(with_reducible first|exact HB.out|apply below_alloc|apply pw_below_drewN|apply below_drew1)|exact HB.out)⟩
end Go.Proofs.Ytleacijhpkogpad.HBigU
/- The law on who rises (FnHeightsRise),a part of its walk: ranks,two by two. -/
namespace Go.Proofs.Ytleacijhpkogpad.HBigU
open Go.RowKit YtleacijhpkogpadW.PrintWords YtleacijhpkogpadW.PrintLast YtleacijhpkogpadW.PrintMore Part HImpl

theorem partK (rk : List Int) (n D : Nat) (AK : Option Addr) (cK : Nat) (wb : World) (wr : World)
    (HB : Aside0 (Below wb.heap.size wb wr))
    (hrk : rk.length ≤ 40) (hn : n ≤ 40) (HCK : Aside0 (Kd.C (Kd.int .i64) wb AK rk.length rk)) (HLK : Aside0 (rk.length ≤ cK)) (HD : Aside0 (HDis.disL rk = D)) (HDB : Aside0 (D ≤ 1000000))
    (HIN : Aside0 (∀ i : Nat,i < rk.length → 0 ≤ rd rk (i : Int) ∧ rd rk (i : Int) < (n : Int))) (HNE : Aside0 (∀ i j : Nat,i < j → j < rk.length → rd rk (i : Int) ≠ rd rk (j : Int)))
    (Q' : Exit → Act → World → Prop) (K' : Act → World → Prop)
    (hK : ∀ ⦃Pr Pu Pv Pw Px Rw Rx Ry Rz R0 R1 R2 R3 R4 R5 R6 R7 R8 R9 Sa Sb Sc Sd Se Sf Sg Sh Si Sj Sk Sl Sn So Sp Sq Sr Ss St Su Sv : Value⦄ ⦃w' : World⦄,Pu = .int .i64 (D : Int) → Aside0 (Below wb.heap.size wb w') → K' ⟨#[Aa,Ab,Ac,Ad,Pr,Af,Ag,Ah,Ai,Aj,Ak,Al,Am,An,Ao,Ap,Aq,Ar,As,At,Au,Av,.slice AK rk.length cK,Ax,Ay,Az,.int .i64 (n : Int),A4,Pu,Pv,Pw,A8,Px,Ba,Bb,Bc,Bd,Be,Bf,Bg,Bh,Bi,Bj,Bk,Bl,Bm,Bn,Bo,Bp,Bq,Br,Bs,Bt,Bu,Bv,Bw,Bx,By,Bz,B0,B1,B2,B3,B4,B5,B6,B7,B8,B9,Ca,Cb,Cc,Cd,Ce,Cf,Cg,Ch,Ci,Cj,Ck,Cl,Cm,Cn,Co,Cp,Cq,Cr,Cs,Ct,Cu,Cv,Cw,Cx,Cy,Cz,C0,C3,C4,C5,C6,C7,C8,C9,Da,Db,Dc,Dd,De,Df,Dg,Dh,Di,Dj,Dk,Dl,Dm,Dn,Do,Dp,Dq,Dr,Ds,Dt,Du,Dv,Dw,Dx,Dy,Dz,D0,D1,D2,D3,D4,D5,D6,D7,D8,D9,Ea,Eb,Ec,Ed,Ee,Ef,Eg,Eh,Ei,Ej,Ek,El,Em,En,Eo,Ep,Er,Es,Et,Eu,Ev,Ew,Ex,Ey,Ez,E0,E1,E2,E3,E4,E5,E6,E7,E8,E9,Fa,Fb,Fc,Fd,Fe,Ff,Fg,Fh,Fi,Fj,Fk,Fl,Fm,Fn,Fo,Fp,Fq,Fr,Fs,Ft,Fu,Fv,Fw,Fx,Fy,Fz,F0,F1,F2,F3,F4,F5,F6,F7,F8,F9,Ga,Gb,Gc,Gd,Ge,Gf,Gg,Gh,Gi,Gj,Gk,Gl,Gm,Gn,Gp,Gq,Gr,Gs,Gt,Gu,Gv,Gw,Gx,Gy,Gz,G0,G1,G2,G3,G4,G5,G6,G7,G8,G9,Ha,Hb,Hc,Hd,He,Hf,Hg,Hh,Hi,Hj,Hk,Hl,Hm,Hn,Ho,Hp,Hq,Hr,Hs,Ht,Hu,Hv,Hw,Hx,Hy,Hz,H0,Rw,Rx,Ry,Rz,R0,R1,R2,R3,R4,R5,R6,R7,R8,R9,Sa,Sb,Sc,Sd,Se,Sf,Sg,Sh,Si,Sj,Sk,Sl,Sn,So,Sp,Sq,Sr,Ss,St,Su,Sv,I2,I3,I4,I5,I6,I7,I8,I9,Ja,Jb,Jc,Jd,Je,Jf,Jg,Jh,Ji,Jj,Jk,Jl,Jm,Jn,Jo,Jp,Jq,Jr,Js,Jt,Ju,Jv,Jw,Jx,Jy,Jz,J0,J1,J2,J3,J4,J5,J6,J7,J8,J9,Ka,Kb,Kc,Ke,Kf,Kg,Kh,Ki,Kj,Kk,Kl,Km,Kn,Ko,Kp,Kq,Kr,Ks,Kt,Ku,Kv,Kw,Kx,Ky,Kz,K0,K1,K3,K4,K5,K6,K7,K8,K9,La,Lb,Lc,Ld,Le,Lf,Lg,Lh,Li,Lj,Lk,Ll,Lm,Ln,Lo,Lp,Lq,Lr,Ls,Lt,Lu,Lv,Lw,Lx,Ly,Lz,L0,L1,L2,L3,L4,L5,L6,L7,L8,L9,Ma,Mb,Mc,Md,Me,Mf,Mg,Mh,Mi,Mj,Mk,Ml,Mm,Mn,Mo,Mp,Mq,Mr,Ms,Mt,Mu,Mv,Mw,Mx,My,Mz,M0,M1,M2,M3,M4,M5,M6,M7,M8,M9,Na,Nb,Nc,Nd,Nf,Ng,Nh,Ni,Nj,Nk,Nl,Nm,Nn,No,Np,Nq,Nr,Ns,Nt,Nu,Nv,Nw,Nx,Ny,Nz,N0,N1,N2,N3,N4,N5,N6,N7,N8,N9,Oa,Ob,Oc,Od,Oe,Of,Og,Oh,Oi,Oj,Ok,Ol,Om,On,Oo,Op,Oq,Os,Ot,Ou,Ov,Ow,Ox,Oy,Oz,O0,O1,O2,O3,O4,O5,O6,O7,O8,O9,Pa,Pb,Pc,Pd,Pe,Pf,Pg,Ph,Pi,Pj,Pk,Pl,Pm,Pn,Po,Pp,Pq],[]⟩ w') :
    Code.wp Try.prog (seqOf Try.f4 26) (Exit.then K' Q') ⟨#[Aa,Ab,Ac,Ad,Ae,Af,Ag,Ah,Ai,Aj,Ak,Al,Am,An,Ao,Ap,Aq,Ar,As,At,Au,Av,.slice AK rk.length cK,Ax,Ay,Az,.int .i64 (n : Int),A4,.int .i64 0,A6,A7,A8,A9,Ba,Bb,Bc,Bd,Be,Bf,Bg,Bh,Bi,Bj,Bk,Bl,Bm,Bn,Bo,Bp,Bq,Br,Bs,Bt,Bu,Bv,Bw,Bx,By,Bz,B0,B1,B2,B3,B4,B5,B6,B7,B8,B9,Ca,Cb,Cc,Cd,Ce,Cf,Cg,Ch,Ci,Cj,Ck,Cl,Cm,Cn,Co,Cp,Cq,Cr,Cs,Ct,Cu,Cv,Cw,Cx,Cy,Cz,C0,C3,C4,C5,C6,C7,C8,C9,Da,Db,Dc,Dd,De,Df,Dg,Dh,Di,Dj,Dk,Dl,Dm,Dn,Do,Dp,Dq,Dr,Ds,Dt,Du,Dv,Dw,Dx,Dy,Dz,D0,D1,D2,D3,D4,D5,D6,D7,D8,D9,Ea,Eb,Ec,Ed,Ee,Ef,Eg,Eh,Ei,Ej,Ek,El,Em,En,Eo,Ep,Er,Es,Et,Eu,Ev,Ew,Ex,Ey,Ez,E0,E1,E2,E3,E4,E5,E6,E7,E8,E9,Fa,Fb,Fc,Fd,Fe,Ff,Fg,Fh,Fi,Fj,Fk,Fl,Fm,Fn,Fo,Fp,Fq,Fr,Fs,Ft,Fu,Fv,Fw,Fx,Fy,Fz,F0,F1,F2,F3,F4,F5,F6,F7,F8,F9,Ga,Gb,Gc,Gd,Ge,Gf,Gg,Gh,Gi,Gj,Gk,Gl,Gm,Gn,Gp,Gq,Gr,Gs,Gt,Gu,Gv,Gw,Gx,Gy,Gz,G0,G1,G2,G3,G4,G5,G6,G7,G8,G9,Ha,Hb,Hc,Hd,He,Hf,Hg,Hh,Hi,Hj,Hk,Hl,Hm,Hn,Ho,Hp,Hq,Hr,Hs,Ht,Hu,Hv,Hw,Hx,Hy,Hz,H0,H1,H2,H3,H4,H5,H6,H7,H8,H9,Ia,Ib,Ic,Ie,If,Ig,Ih,Ii,Ij,Ik,Il,Im,In,Io,Ip,Iq,Ir,Is,It,Iu,Iv,Iw,Ix,Iy,Iz,I0,I2,I3,I4,I5,I6,I7,I8,I9,Ja,Jb,Jc,Jd,Je,Jf,Jg,Jh,Ji,Jj,Jk,Jl,Jm,Jn,Jo,Jp,Jq,Jr,Js,Jt,Ju,Jv,Jw,Jx,Jy,Jz,J0,J1,J2,J3,J4,J5,J6,J7,J8,J9,Ka,Kb,Kc,Ke,Kf,Kg,Kh,Ki,Kj,Kk,Kl,Km,Kn,Ko,Kp,Kq,Kr,Ks,Kt,Ku,Kv,Kw,Kx,Ky,Kz,K0,K1,K3,K4,K5,K6,K7,K8,K9,La,Lb,Lc,Ld,Le,Lf,Lg,Lh,Li,Lj,Lk,Ll,Lm,Ln,Lo,Lp,Lq,Lr,Ls,Lt,Lu,Lv,Lw,Lx,Ly,Lz,L0,L1,L2,L3,L4,L5,L6,L7,L8,L9,Ma,Mb,Mc,Md,Me,Mf,Mg,Mh,Mi,Mj,Mk,Ml,Mm,Mn,Mo,Mp,Mq,Mr,Ms,Mt,Mu,Mv,Mw,Mx,My,Mz,M0,M1,M2,M3,M4,M5,M6,M7,M8,M9,Na,Nb,Nc,Nd,Nf,Ng,Nh,Ni,Nj,Nk,Nl,Nm,Nn,No,Np,Nq,Nr,Ns,Nt,Nu,Nv,Nw,Nx,Ny,Nz,N0,N1,N2,N3,N4,N5,N6,N7,N8,N9,Oa,Ob,Oc,Od,Oe,Of,Og,Oh,Oi,Oj,Ok,Ol,Om,On,Oo,Op,Oq,Os,Ot,Ou,Ov,Ow,Ox,Oy,Oz,O0,O1,O2,O3,O4,O5,O6,O7,O8,O9,Pa,Pb,Pc,Pd,Pe,Pf,Pg,Ph,Pi,Pj,Pk,Pl,Pm,Pn,Po,Pp,Pq],[]⟩ wr := by
  conv => arg 2; whnf
  have HKK := Aside0.mk hK
  clear hK
  go_wp2_with fail
  go_loopg [274,28] rk.length (fun kq v274 v28 w' => ∃ i c : Nat,v274 = .int .i64 (i : Int) ∧ v28 = .int .i64 (c : Int) ∧ Aside0 (kq + i = rk.length) ∧ Aside0 (c + HDis.disL (rk.drop i) = D) ∧ Aside0 (Below wb.heap.size wb w'))
  case atStart => exact ⟨0,0,rfl,rfl,⟨rfl⟩,⟨by rw [List.drop_zero,Nat.zero_add]; exact HD.out⟩,⟨(by repeat first|(with_reducible first|exact HB.out|apply below_alloc|apply pw_below_drewN|apply below_drew1)|exact HB.out)⟩⟩
  case round =>
    clear HB
    obtain ⟨i,c,rfl,rfl,HK,HCC,HB⟩ := hrel
    have hk := HK.out
    by_cases hi : i < rk.length
    · have HK0 := Aside0.mk hk
      have HI0 := Aside0.mk hi
      obtain ⟨hx0,hx9⟩ := HIN.out i hi
      have HNI := Aside0.mk (fun j (h1 : i < j) (h2 : j < rk.length) => HNE.out i j h1 h2)
      obtain ⟨ad,e,hx⟩ := Kd.at_int (Kd.C_below HCK.out HB.out) (i : Int) (by omega) (by omega)
      cases e
      rw [Int.toNat_natCast] at hx
      have hcc := HCC.out
      rw [HWR.drop_c rk i hi,HDis.disL] at hcc
      obtain ⟨A3,c3,hc3,hC3,hl3⟩ := HW.drop_ (some ad) cK rk (i + 1) (by omega) HLK.out
      rw [show (((i + 1 : Nat) : Int)) = (i : Int) + 1 by omega] at hc3
      have hw1 : IntKind.i64.wrap ((i : Int) + 1) = (i : Int) + 1 := IntWalk.i64_in _ (by omega)
      have HTL := Aside0.mk (show (rk.drop (i + 1)).length = rk.length - (i + 1) by rw [List.length_drop])
      have HNY := Aside0.mk (fun (j : Nat) (h : j < (rk.drop (i + 1)).length) => (show rd rk (i : Int) ≠ rd (rk.drop (i + 1)) (j : Int) ∧ 0 ≤ rd (rk.drop (i + 1)) (j : Int) by
        rw [HWR.rd_drop]
        have h2 := HTL.out
        exact ⟨HNI.out (i + 1 + j) (by omega) (by omega),(HIN.out (i + 1 + j) (by omega)).1⟩))
      have HCT := Aside0.mk (hC3 wr (Kd.C_below HCK.out HB.out))
      generalize hT : rk.drop (i + 1) = tl at hc3 hC3 hl3 HTL HNY HCT hcc
      have HTE := Aside0.mk hT
      clear hT
      generalize rd rk (i : Int) = x at hx hx0 hx9 HNY hcc HNI
      have htl : tl.length ≤ 40 := by have := HTL.out; omega
      have d2 : decide (x < 0) = false := by simp; omega
      have d3 : decide ((n : Int) ≤ x) = false := by simp; omega
      have HCX := Aside0.mk hcc
      have HWB := HB
      have HBR := Aside0.mk (Below.refl wr.heap.size wr)
      have hcb : c ≤ 1000000 := by have := HDB.out; omega
      clear hk hC3 hl3 hcc HNI hx0 hx9
      go_wp2_with fail
      go_loopg [284,28] tl.length (fun kq v284 v28 w' => ∃ j c : Nat,v284 = .int .i64 (j : Int) ∧ v28 = .int .i64 (c : Int) ∧ Aside0 (kq + j = tl.length) ∧ Aside0 (c + (HDis.disR x (tl.drop j) + HDis.disL tl) = D) ∧ Aside0 (Below wr.heap.size wr w'))
      case atStart => exact ⟨0,c,rfl,rfl,⟨rfl⟩,⟨by rw [List.drop_zero]; exact HCX.out⟩,HBR⟩
      case round =>
        clear HCX HBR hcb
        obtain ⟨j,c,rfl,rfl,HKJ,HCI,HBr⟩ := hrel
        have hkj := HKJ.out
        have hcb : c ≤ 1000000 := by have := HDB.out; have := HCI.out; omega
        by_cases hj : j < tl.length
        · have HKJ0 := Aside0.mk hkj
          have HJ0 := Aside0.mk hj
          obtain ⟨hne,hy0⟩ := HNY.out j hj
          obtain ⟨ad3,e,hy⟩ := Kd.at_int (Kd.C_below HCT.out HBr.out) (j : Int) (by omega) (by omega)
          cases e
          rw [Int.toNat_natCast] at hy
          have hci := HCI.out
          rw [HWR.drop_c tl j hj,HDis.disR] at hci
          generalize rd tl (j : Int) = y at hy hne hy0 hci
          have d4 : (x == y) = false := beq_eq_false_iff_ne.mpr hne
          have hw2 : IntKind.i64.wrap ((j : Int) + 1) = (j : Int) + 1 := IntWalk.i64_in _ (by omega)
          have hw3 : IntKind.i64.wrap ((c : Int) + 1) = (c : Int) + 1 := IntWalk.i64_in _ (by omega)
          have HB := HBr
          clear HBr
          have hjl : j < tl.length := hj
          by_cases cc : y < x
          · rw [if_pos cc] at hci
            have HS := Aside0.mk hci
            have d5 : decide (y < x) = true := decide_eq_true cc
            clear cc hci hkj hne hy0
            go_wp2_with fail
            go_roundg (tl.length - (j + 1))
            case measure => have := HKJ0.out; have := HJ0.out; omega
            case rel => exact ⟨j + 1,c + 1,by first | rfl | simp,by first | rfl | simp,⟨by have := HKJ0.out; have := HJ0.out; omega⟩,⟨by have := HS.out; omega⟩,⟨(by repeat first|(with_reducible first|exact HB.out|apply below_alloc|apply pw_below_drewN|apply below_drew1)|exact HB.out)⟩⟩
          · rw [if_neg cc] at hci
            have HS := Aside0.mk hci
            have d5 : decide (y < x) = false := decide_eq_false cc
            clear cc hci hkj hne hy0
            go_wp2_with fail
            go_roundg (tl.length - (j + 1))
            case measure => have := HKJ0.out; have := HJ0.out; omega
            case rel => exact ⟨j + 1,c,by first | rfl | simp,by first | rfl | simp,⟨by have := HKJ0.out; have := HJ0.out; omega⟩,⟨by have := HS.out; omega⟩,⟨(by repeat first|(with_reducible first|exact HB.out|apply below_alloc|apply pw_below_drewN|apply below_drew1)|exact HB.out)⟩⟩
        · have hd : decide ((j : Int) < (tl.length : Int)) = false := by simp; omega
          have hci := HCI.out
          rw [List.drop_eq_nil_of_le (by omega),HDis.disR] at hci
          have HS := Aside0.mk hci
          have HBn := Aside0.mk (below_step HWB.out HBr.out)
          clear HWB HBr hci hkj
          have HB := HBn
          clear HBn
          go_wp2_with fail
          go_roundg (rk.length - (i + 1))
          case measure => have := HK0.out; have := HI0.out; omega
          case rel => exact ⟨i + 1,c,by first | rfl | simp,by first | rfl | simp,⟨by have := HK0.out; have := HI0.out; omega⟩,⟨by rw [HTE.out]; have := HS.out; omega⟩,⟨(by repeat first|(with_reducible first|exact HB.out|apply below_alloc|apply pw_below_drewN|apply below_drew1)|exact HB.out)⟩⟩
    · have hd : decide ((i : Int) < (rk.length : Int)) = false := by simp; omega
      have hcc := HCC.out
      rw [List.drop_eq_nil_of_le (by omega),HDis.disL] at hcc
      obtain rfl : c = D := by omega
      clear hcc HCC
      go_wp2_with fail
      exact HKK.out rfl ⟨(by repeat first|(with_reducible first|exact HB.out|apply below_alloc|apply pw_below_drewN|apply below_drew1)|exact HB.out)⟩
end Go.Proofs.Ytleacijhpkogpad.HBigU
/- The law on who rises (FnHeightsRise),a part of its walk: all that is said of heights. -/
namespace Go.Proofs.Ytleacijhpkogpad.HBigU
open Go.RowKit YtleacijhpkogpadW.PrintWords YtleacijhpkogpadW.PrintLast YtleacijhpkogpadW.PrintMore Part HImpl

theorem partA (l lr rk mi : List Int) (D : Nat) (mo le Sm : Int) (A0 AL AK : Option Addr) (c0 cL cK : Nat) (wb : World) (wr : World)
    (HB : Aside0 (Below wb.heap.size wb wr))
    (h40 : Aside0 (l.length ≤ 40))
    (h1 : Aside0 (0 < lr.length))
    (hl4 : Aside0 (lr.length ≤ 40))
    (h2 : Aside0 ((lr.length : Int) ≤ mo))
    (h3 : Aside0 (mo ≤ (l.length : Int)))
    (HLE : Aside0 (le = (l.length : Int) - mo))
    (HKL : Aside0 (rk.length = l.length))
    (HSM : Aside0 ((l.length : Int) * ((l.length : Int) - 1) = 2 * Sm))
    (hS : Aside0 (0 ≤ Sm ∧ Sm ≤ 1000000))
    (hs1 : Aside0 (lr.Pairwise (· < ·)))
    (HVS : Aside0 (rk.sum = Sm))
    (HNN : Aside0 (∀ x ∈ rk,0 ≤ x))
    (HRI : Aside0 (∀ i j : Nat,i + 1 = j → j < lr.length → ∃ a b : Nat,rd lr (i : Int) = (a : Int) ∧ rd lr (j : Int) = (b : Int) ∧ a < l.length ∧ b < l.length ∧ rd l (a : Int) < rd l (b : Int)))
    (HD : Aside0 (HDis.disL rk = D))
    (HDB : Aside0 (D ≤ 1000000))
    (HIN : Aside0 (∀ i : Nat,i < rk.length → 0 ≤ rd rk (i : Int) ∧ rd rk (i : Int) < (l.length : Int)))
    (HNE : Aside0 (∀ i j : Nat,i < j → j < rk.length → rd rk (i : Int) ≠ rd rk (j : Int)))
    (HC : Aside0 (Kd.C (Kd.int .i64) wb A0 l.length l))
    (HLC : Aside0 (l.length ≤ c0))
    (HCL : Aside0 (Kd.C (Kd.int .i64) wb AL lr.length lr))
    (HLL : Aside0 (lr.length ≤ cL))
    (HCK : Aside0 (Kd.C (Kd.int .i64) wb AK rk.length rk))
    (HLK : Aside0 (rk.length ≤ cK))
    (C1 : Aside0 (∀ W,Below wb.heap.size wb W → Calls Try.prog 15 #[.slice A0 l.length c0] W fun e w' => ∃ v,e = .returned (.tuple #[v,.bool true]) ∧ Kd.R (Kd.int .i64) 3 w' W.heap.size (fun _ => True) v mi ∧ Below W.heap.size W w')) (C2 : Aside0 (∀ (A : Option Addr) (c : Nat) (W : World),Kd.C (Kd.int .i64) W A mi.length mi → mi.length ≤ c → Calls Try.prog 34 #[.slice A mi.length c] W fun e w' => e = .returned (.tuple #[.int .i64 mo,.bool true]) ∧ Below W.heap.size W w'))
    (Q' : Exit → Act → World → Prop) (K' : Act → World → Prop)
    (hK : ∀ ⦃Pr Ps Pt Pu Pv Pw Px Py Pz P0 P1 P2 P3 P4 P5 P6 P7 P8 P9 Qa Qb Qc Qd Qe Qf Qg Qh Qi Qj Qk Ql Qm Qn Qo Qp Qq Qr Qs Qt Qu Qv Qw Qx Qy Qz Q0 Q1 Q2 Q3 Q4 Q5 Q6 Q7 Q8 Q9 Ra Rb Rc Rd Re Rf Rg Rh Ri Rj Rk Rl Rm Rn Ro Rp Rq Rr Rs Rt Ru Rv Rw Rx Ry Rz R0 R1 R2 R3 R4 R5 R6 R7 R8 R9 Sa Sb Sc Sd Se Sf Sg Sh Si Sj Sk Sl Sn So Sp Sq Sr Ss St Su Sv Sw Sx Sy Sz S2 S3 S4 S5 S6 S7 S8 S9 Ta Tb Tc Td Te Tf Tg Th Ti Tj Tk Tl Tm Tn : Value⦄ ⦃w' : World⦄,Aside0 (Below wb.heap.size wb w') → K' ⟨#[Aa,Ab,Ac,Ad,Pr,.slice A0 l.length c0,.slice AL lr.length cL,Ah,Ai,Aj,.int .i64 mo,Al,Am,An,.int .i64 le,Ap,Aq,Ar,.int .i64 (D : Int),At,Au,Av,.slice AK rk.length cK,Ax,Ay,Az,Ps,Pt,Pu,Pv,Pw,A8,Px,Py,Pz,P0,P1,Be,Bf,Bg,Bh,Bi,Bj,Bk,Bl,Bm,Bn,Bo,Bp,Bq,Br,Bs,Bt,Bu,Bv,Bw,Bx,By,Bz,B0,B1,B2,B3,B4,B5,B6,B7,B8,B9,Ca,Cb,Cc,Cd,Ce,Cf,Cg,Ch,Ci,Cj,Ck,Cl,Cm,Cn,Co,Cp,Cq,Cr,Cs,Ct,Cu,Cv,Cw,Cx,Cy,Cz,C0,C3,C4,C5,C6,C7,C8,C9,Da,Db,Dc,Dd,De,Df,Dg,Dh,Di,Dj,Dk,Dl,Dm,Dn,Do,Dp,Dq,Dr,Ds,Dt,Du,Dv,Dw,Dx,Dy,Dz,D0,D1,D2,D3,D4,D5,D6,D7,D8,D9,Ea,Eb,Ec,Ed,Ee,Ef,Eg,Eh,Ei,Ej,Ek,El,Em,En,Eo,Ep,Er,Es,Et,Eu,Ev,Ew,Ex,Ey,Ez,E0,E1,E2,E3,E4,E5,E6,E7,E8,E9,Fa,Fb,Fc,Fd,Fe,Ff,Fg,Fh,Fi,Fj,Fk,Fl,Fm,Fn,Fo,Fp,Fq,Fr,Fs,Ft,Fu,Fv,Fw,Fx,Fy,Fz,F0,F1,F2,F3,F4,.bool true,P2,P3,P4,P5,P6,P7,P8,P9,Qa,Qb,Qc,Qd,Qe,Qf,Qg,Qh,Qi,Qj,Qk,Ql,Qm,Qn,Qo,Qp,Qq,Qr,Qs,Qt,Qu,Qv,Qw,Qx,Qy,Qz,Q0,Q1,Q2,Q3,Q4,Q5,Q6,Q7,Q8,Q9,Ra,Rb,Rc,Rd,Re,Rf,Rg,Rh,Ri,Rj,Rk,Rl,Rm,Rn,Ro,Rp,Rq,Rr,Rs,Rt,Ru,Rv,Rw,Rx,Ry,Rz,R0,R1,R2,R3,R4,R5,R6,R7,R8,R9,Sa,Sb,Sc,Sd,Se,Sf,Sg,Sh,Si,Sj,Sk,Sl,Sn,So,Sp,Sq,Sr,Ss,St,Su,Sv,Sw,Sx,Sy,Sz,S2,S3,S4,S5,S6,S7,S8,S9,Ta,Tb,Tc,Td,Te,Tf,Tg,Th,Ti,Tj,Tk,Tl,Tm,Tn,Js,Jt,Ju,Jv,Jw,Jx,Jy,Jz,J0,J1,J2,J3,J4,J5,J6,J7,J8,J9,Ka,Kb,Kc,Ke,Kf,Kg,Kh,Ki,Kj,Kk,Kl,Km,Kn,Ko,Kp,Kq,Kr,Ks,Kt,Ku,Kv,Kw,Kx,Ky,Kz,K0,K1,K3,K4,K5,K6,K7,K8,K9,La,Lb,Lc,Ld,Le,Lf,Lg,Lh,Li,Lj,Lk,Ll,Lm,Ln,Lo,Lp,Lq,Lr,Ls,Lt,Lu,Lv,Lw,Lx,Ly,Lz,L0,L1,L2,L3,L4,L5,L6,L7,L8,L9,Ma,Mb,Mc,Md,Me,Mf,Mg,Mh,Mi,Mj,Mk,Ml,Mm,Mn,Mo,Mp,Mq,Mr,Ms,Mt,Mu,Mv,Mw,Mx,My,Mz,M0,M1,M2,M3,M4,M5,M6,M7,M8,M9,Na,Nb,Nc,Nd,Nf,Ng,Nh,Ni,Nj,Nk,Nl,Nm,Nn,No,Np,Nq,Nr,Ns,Nt,Nu,Nv,Nw,Nx,Ny,Nz,N0,N1,N2,N3,N4,N5,N6,N7,N8,N9,Oa,Ob,Oc,Od,Oe,Of,Og,Oh,Oi,Oj,Ok,Ol,Om,On,Oo,Op,Oq,Os,Ot,Ou,Ov,Ow,Ox,Oy,Oz,O0,O1,O2,O3,O4,O5,O6,O7,O8,O9,Pa,Pb,Pc,Pd,Pe,Pf,Pg,Ph,Pi,Pj,Pk,Pl,Pm,Pn,Po,Pp,Pq],[]⟩ w') :
    Code.wp Try.prog (condOf Try.f4 205) (Exit.then K' Q') ⟨#[Aa,Ab,Ac,Ad,Ae,.slice A0 l.length c0,.slice AL lr.length cL,Ah,Ai,Aj,.int .i64 mo,Al,Am,An,.int .i64 le,Ap,Aq,Ar,.int .i64 (D : Int),At,Au,Av,.slice AK rk.length cK,Ax,Ay,Az,A2,A4,A5,A6,A7,A8,A9,Ba,Bb,Bc,Bd,Be,Bf,Bg,Bh,Bi,Bj,Bk,Bl,Bm,Bn,Bo,Bp,Bq,Br,Bs,Bt,Bu,Bv,Bw,Bx,By,Bz,B0,B1,B2,B3,B4,B5,B6,B7,B8,B9,Ca,Cb,Cc,Cd,Ce,Cf,Cg,Ch,Ci,Cj,Ck,Cl,Cm,Cn,Co,Cp,Cq,Cr,Cs,Ct,Cu,Cv,Cw,Cx,Cy,Cz,C0,C3,C4,C5,C6,C7,C8,C9,Da,Db,Dc,Dd,De,Df,Dg,Dh,Di,Dj,Dk,Dl,Dm,Dn,Do,Dp,Dq,Dr,Ds,Dt,Du,Dv,Dw,Dx,Dy,Dz,D0,D1,D2,D3,D4,D5,D6,D7,D8,D9,Ea,Eb,Ec,Ed,Ee,Ef,Eg,Eh,Ei,Ej,Ek,El,Em,En,Eo,Ep,Er,Es,Et,Eu,Ev,Ew,Ex,Ey,Ez,E0,E1,E2,E3,E4,E5,E6,E7,E8,E9,Fa,Fb,Fc,Fd,Fe,Ff,Fg,Fh,Fi,Fj,Fk,Fl,Fm,Fn,Fo,Fp,Fq,Fr,Fs,Ft,Fu,Fv,Fw,Fx,Fy,Fz,F0,F1,F2,F3,F4,.bool true,F6,F7,F8,F9,Ga,Gb,Gc,Gd,Ge,Gf,Gg,Gh,Gi,Gj,Gk,Gl,Gm,Gn,Gp,Gq,Gr,Gs,Gt,Gu,Gv,Gw,Gx,Gy,Gz,G0,G1,G2,G3,G4,G5,G6,G7,G8,G9,Ha,Hb,Hc,Hd,He,Hf,Hg,Hh,Hi,Hj,Hk,Hl,Hm,Hn,Ho,Hp,Hq,Hr,Hs,Ht,Hu,Hv,Hw,Hx,Hy,Hz,H0,H1,H2,H3,H4,H5,H6,H7,H8,H9,Ia,Ib,Ic,Ie,If,Ig,Ih,Ii,Ij,Ik,Il,Im,In,Io,Ip,Iq,Ir,Is,It,Iu,Iv,Iw,Ix,Iy,Iz,I0,I2,I3,I4,I5,I6,I7,I8,I9,Ja,Jb,Jc,Jd,Je,Jf,Jg,Jh,Ji,Jj,Jk,Jl,Jm,Jn,Jo,Jp,Jq,Jr,Js,Jt,Ju,Jv,Jw,Jx,Jy,Jz,J0,J1,J2,J3,J4,J5,J6,J7,J8,J9,Ka,Kb,Kc,Ke,Kf,Kg,Kh,Ki,Kj,Kk,Kl,Km,Kn,Ko,Kp,Kq,Kr,Ks,Kt,Ku,Kv,Kw,Kx,Ky,Kz,K0,K1,K3,K4,K5,K6,K7,K8,K9,La,Lb,Lc,Ld,Le,Lf,Lg,Lh,Li,Lj,Lk,Ll,Lm,Ln,Lo,Lp,Lq,Lr,Ls,Lt,Lu,Lv,Lw,Lx,Ly,Lz,L0,L1,L2,L3,L4,L5,L6,L7,L8,L9,Ma,Mb,Mc,Md,Me,Mf,Mg,Mh,Mi,Mj,Mk,Ml,Mm,Mn,Mo,Mp,Mq,Mr,Ms,Mt,Mu,Mv,Mw,Mx,My,Mz,M0,M1,M2,M3,M4,M5,M6,M7,M8,M9,Na,Nb,Nc,Nd,Nf,Ng,Nh,Ni,Nj,Nk,Nl,Nm,Nn,No,Np,Nq,Nr,Ns,Nt,Nu,Nv,Nw,Nx,Ny,Nz,N0,N1,N2,N3,N4,N5,N6,N7,N8,N9,Oa,Ob,Oc,Od,Oe,Of,Og,Oh,Oi,Oj,Ok,Ol,Om,On,Oo,Op,Oq,Os,Ot,Ou,Ov,Ow,Ox,Oy,Oz,O0,O1,O2,O3,O4,O5,O6,O7,O8,O9,Pa,Pb,Pc,Pd,Pe,Pf,Pg,Ph,Pi,Pj,Pk,Pl,Pm,Pn,Po,Pp,Pq],[]⟩ wr := by
  conv => arg 2; whnf
  have HKK := Aside0.mk hK
  clear hK
  go_upto_region 18 with fail
  refine part17 lr rk l.length mo le Sm AL AK cL cK wb _ ⟨(by repeat first|(with_reducible first|exact HB.out|apply below_alloc|apply pw_below_drewN|apply below_drew1)|exact HB.out)⟩ h40.out h1.out h2.out h3.out HLE HKL HSM hS.out ⟨fun W h => HLawV.rises_yes AL cL lr (Nat.le_trans hl4.out (by decide)) hs1.out W (Kd.C_below HCL.out h) HLL.out⟩ ⟨fun W h => by have hq := HLawV.sum_is AK cK rk (by have := HKL.out; have := h40.out; omega) HNN.out (by have := HVS.out; have := hS.out; omega) W (Kd.C_below HCK.out h) HLK.out; rw [HVS.out] at hq; exact hq⟩ _ _ ?_
  intro P4 P5 P6 P7 P8 P9 Qa Qb Qc Qd Qe Qf Qg Qh Qi Qj Qk Ql Qm Qn Qo Qp Qq Qr Qs Qt Qu Qv Qw Qx Qy Qz Q0 Q1 Q2 Q3 Q4 Q5 Q6 Q7 Q8 Q9 w17 h251 hb
  subst h251; clear HB; have HB := hb; clear hb
  go_upto_if 249 with fail
  try simp only [List.append]
  go_cut [] from 250 to 250 (fun wx => Aside0 (Below wb.heap.size wb wx))
  case first =>
    go_wp2_with fail
    go_meet
    case rel => exact ⟨(by repeat first|(with_reducible first|exact HB.out|apply below_alloc|apply pw_below_drewN|apply below_drew1)|exact HB.out)⟩
  case rest =>
  clear HB
  have HB := hcut
  clear hcut
  refine (by assumption : ∀ (a : Act) (w : World),Code.wp _ _ _ a w → _) _ _ ?_
  with_reducible refine wp_seq_k (fun K2 hk2 => ?_)
  refine partR l lr A0 AL c0 cL wb _ ⟨(by repeat first|(with_reducible first|exact HB.out|apply below_alloc|apply pw_below_drewN|apply below_drew1)|exact HB.out)⟩ h40.out hl4.out HC HCL HRI _ _ ?_
  intro Pr Pt Ra Rb Rc Rd Re Rf Rg Rh Ri Rj Rk Rl Rm Rn Ro Rp Rq Rr Rs Rt Ru Rv w18  hb
  clear HB; have HB := hb; clear hb
  refine hk2 _ _ ?_
  clear hk2 K2
  go_upto_region 25 with fail
  try simp only [List.append]
  go_cut [28] from 272 to 272 (fun s39 wx => s39 = .int .i64 0 ∧ Aside0 (Below wb.heap.size wb wx))
  case first =>
    go_wp2_with fail
    go_meet
    case rel => exact ⟨rfl,⟨(by repeat first|(with_reducible first|exact HB.out|apply below_alloc|apply pw_below_drewN|apply below_drew1)|exact HB.out)⟩⟩
  case rest =>
  clear HB
  obtain ⟨rfl,HB⟩ := hcut
  refine (by assumption : ∀ (a : Act) (w : World),Code.wp _ _ _ a w → _) _ _ ?_
  with_reducible refine wp_seq_k (fun K2 hk2 => ?_)
  refine partK rk l.length D AK cK wb _ ⟨(by repeat first|(with_reducible first|exact HB.out|apply below_alloc|apply pw_below_drewN|apply below_drew1)|exact HB.out)⟩ (by have := HKL.out; have := h40.out; omega) h40.out HCK HLK HD HDB HIN HNE _ _ ?_
  intro Pr Pu Pv Pw Px Rw Rx Ry Rz R0 R1 R2 R3 R4 R5 R6 R7 R8 R9 Sa Sb Sc Sd Se Sf Sg Sh Si Sj Sk Sl Sn So Sp Sq Sr Ss St Su Sv w19 h39 hb
  subst h39; clear HB; have HB := hb; clear hb
  refine hk2 _ _ ?_
  clear hk2 K2
  go_wp2_with fail
  refine (C1.out _ (by repeat first|(with_reducible first|exact HB.out|apply below_alloc|apply pw_below_drewN|apply below_drew1)|exact HB.out)).mono ?_
  rintro e wd1 ⟨vd1,rfl,ho,hb⟩
  obtain ⟨A1,k1,rfl,hlc,hC⟩ := Kd.R_reads ho
  have HC1 := Aside0.mk hC
  have HLC1 := Aside0.mk hlc
  have HBn := Aside0.mk (below_step (by repeat first|(with_reducible first|exact HB.out|apply below_alloc|apply pw_below_drewN|apply below_drew1)|exact HB.out) hb); clear hb HB; have HB := HBn; clear HBn; try dsimp only
  clear ho hlc hC
  go_wp2_with fail
  refine (C2.out A1 k1 _ HC1.out HLC1.out).mono ?_
  rintro e wd2 ⟨rfl,hb⟩
  have HBn := Aside0.mk (below_step (by repeat first|(with_reducible first|exact HB.out|apply below_alloc|apply pw_below_drewN|apply below_drew1)|exact HB.out) hb); clear hb HB; have HB := HBn; clear HBn; try dsimp only
  go_wp2_with fail
  exact HKK.out ⟨(by repeat first|(with_reducible first|exact HB.out|apply below_alloc|apply pw_below_drewN|apply below_drew1)|exact HB.out)⟩
theorem partA_no (wb : World) (wr : World)
    (HB : Aside0 (Below wb.heap.size wb wr))
    (Q' : Exit → Act → World → Prop) (K' : Act → World → Prop)
    (hK : ∀ ⦃Pr Ps Pt Pu Pv Pw Px Py Pz P0 P1 P2 P3 P4 P5 P6 P7 P8 P9 Qa Qb Qc Qd Qe Qf Qg Qh Qi Qj Qk Ql Qm Qn Qo Qp Qq Qr Qs Qt Qu Qv Qw Qx Qy Qz Q0 Q1 Q2 Q3 Q4 Q5 Q6 Q7 Q8 Q9 Ra Rb Rc Rd Re Rf Rg Rh Ri Rj Rk Rl Rm Rn Ro Rp Rq Rr Rs Rt Ru Rv Rw Rx Ry Rz R0 R1 R2 R3 R4 R5 R6 R7 R8 R9 Sa Sb Sc Sd Se Sf Sg Sh Si Sj Sk Sl Sn So Sp Sq Sr Ss St Su Sv Sw Sx Sy Sz S2 S3 S4 S5 S6 S7 S8 S9 Ta Tb Tc Td Te Tf Tg Th Ti Tj Tk Tl Tm Tn : Value⦄ ⦃w' : World⦄,Aside0 (Below wb.heap.size wb w') → K' ⟨#[Aa,Ab,Ac,Ad,Pr,Af,Ag,Ah,Ai,Aj,Ak,Al,Am,An,Ao,Ap,Aq,Ar,As,At,Au,Av,Aw,Ax,Ay,Az,Ps,Pt,Pu,Pv,Pw,A8,Px,Py,Pz,P0,P1,Be,Bf,Bg,Bh,Bi,Bj,Bk,Bl,Bm,Bn,Bo,Bp,Bq,Br,Bs,Bt,Bu,Bv,Bw,Bx,By,Bz,B0,B1,B2,B3,B4,B5,B6,B7,B8,B9,Ca,Cb,Cc,Cd,Ce,Cf,Cg,Ch,Ci,Cj,Ck,Cl,Cm,Cn,Co,Cp,Cq,Cr,Cs,Ct,Cu,Cv,Cw,Cx,Cy,Cz,C0,C3,C4,C5,C6,C7,C8,C9,Da,Db,Dc,Dd,De,Df,Dg,Dh,Di,Dj,Dk,Dl,Dm,Dn,Do,Dp,Dq,Dr,Ds,Dt,Du,Dv,Dw,Dx,Dy,Dz,D0,D1,D2,D3,D4,D5,D6,D7,D8,D9,Ea,Eb,Ec,Ed,Ee,Ef,Eg,Eh,Ei,Ej,Ek,El,Em,En,Eo,Ep,Er,Es,Et,Eu,Ev,Ew,Ex,Ey,Ez,E0,E1,E2,E3,E4,E5,E6,E7,E8,E9,Fa,Fb,Fc,Fd,Fe,Ff,Fg,Fh,Fi,Fj,Fk,Fl,Fm,Fn,Fo,Fp,Fq,Fr,Fs,Ft,Fu,Fv,Fw,Fx,Fy,Fz,F0,F1,F2,F3,F4,.bool false,P2,P3,P4,P5,P6,P7,P8,P9,Qa,Qb,Qc,Qd,Qe,Qf,Qg,Qh,Qi,Qj,Qk,Ql,Qm,Qn,Qo,Qp,Qq,Qr,Qs,Qt,Qu,Qv,Qw,Qx,Qy,Qz,Q0,Q1,Q2,Q3,Q4,Q5,Q6,Q7,Q8,Q9,Ra,Rb,Rc,Rd,Re,Rf,Rg,Rh,Ri,Rj,Rk,Rl,Rm,Rn,Ro,Rp,Rq,Rr,Rs,Rt,Ru,Rv,Rw,Rx,Ry,Rz,R0,R1,R2,R3,R4,R5,R6,R7,R8,R9,Sa,Sb,Sc,Sd,Se,Sf,Sg,Sh,Si,Sj,Sk,Sl,Sn,So,Sp,Sq,Sr,Ss,St,Su,Sv,Sw,Sx,Sy,Sz,S2,S3,S4,S5,S6,S7,S8,S9,Ta,Tb,Tc,Td,Te,Tf,Tg,Th,Ti,Tj,Tk,Tl,Tm,Tn,Js,Jt,Ju,Jv,Jw,Jx,Jy,Jz,J0,J1,J2,J3,J4,J5,J6,J7,J8,J9,Ka,Kb,Kc,Ke,Kf,Kg,Kh,Ki,Kj,Kk,Kl,Km,Kn,Ko,Kp,Kq,Kr,Ks,Kt,Ku,Kv,Kw,Kx,Ky,Kz,K0,K1,K3,K4,K5,K6,K7,K8,K9,La,Lb,Lc,Ld,Le,Lf,Lg,Lh,Li,Lj,Lk,Ll,Lm,Ln,Lo,Lp,Lq,Lr,Ls,Lt,Lu,Lv,Lw,Lx,Ly,Lz,L0,L1,L2,L3,L4,L5,L6,L7,L8,L9,Ma,Mb,Mc,Md,Me,Mf,Mg,Mh,Mi,Mj,Mk,Ml,Mm,Mn,Mo,Mp,Mq,Mr,Ms,Mt,Mu,Mv,Mw,Mx,My,Mz,M0,M1,M2,M3,M4,M5,M6,M7,M8,M9,Na,Nb,Nc,Nd,Nf,Ng,Nh,Ni,Nj,Nk,Nl,Nm,Nn,No,Np,Nq,Nr,Ns,Nt,Nu,Nv,Nw,Nx,Ny,Nz,N0,N1,N2,N3,N4,N5,N6,N7,N8,N9,Oa,Ob,Oc,Od,Oe,Of,Og,Oh,Oi,Oj,Ok,Ol,Om,On,Oo,Op,Oq,Os,Ot,Ou,Ov,Ow,Ox,Oy,Oz,O0,O1,O2,O3,O4,O5,O6,O7,O8,O9,Pa,Pb,Pc,Pd,Pe,Pf,Pg,Ph,Pi,Pj,Pk,Pl,Pm,Pn,Po,Pp,Pq],[]⟩ w') :
    Code.wp Try.prog (condOf Try.f4 205) (Exit.then K' Q') ⟨#[Aa,Ab,Ac,Ad,Ae,Af,Ag,Ah,Ai,Aj,Ak,Al,Am,An,Ao,Ap,Aq,Ar,As,At,Au,Av,Aw,Ax,Ay,Az,A2,A4,A5,A6,A7,A8,A9,Ba,Bb,Bc,Bd,Be,Bf,Bg,Bh,Bi,Bj,Bk,Bl,Bm,Bn,Bo,Bp,Bq,Br,Bs,Bt,Bu,Bv,Bw,Bx,By,Bz,B0,B1,B2,B3,B4,B5,B6,B7,B8,B9,Ca,Cb,Cc,Cd,Ce,Cf,Cg,Ch,Ci,Cj,Ck,Cl,Cm,Cn,Co,Cp,Cq,Cr,Cs,Ct,Cu,Cv,Cw,Cx,Cy,Cz,C0,C3,C4,C5,C6,C7,C8,C9,Da,Db,Dc,Dd,De,Df,Dg,Dh,Di,Dj,Dk,Dl,Dm,Dn,Do,Dp,Dq,Dr,Ds,Dt,Du,Dv,Dw,Dx,Dy,Dz,D0,D1,D2,D3,D4,D5,D6,D7,D8,D9,Ea,Eb,Ec,Ed,Ee,Ef,Eg,Eh,Ei,Ej,Ek,El,Em,En,Eo,Ep,Er,Es,Et,Eu,Ev,Ew,Ex,Ey,Ez,E0,E1,E2,E3,E4,E5,E6,E7,E8,E9,Fa,Fb,Fc,Fd,Fe,Ff,Fg,Fh,Fi,Fj,Fk,Fl,Fm,Fn,Fo,Fp,Fq,Fr,Fs,Ft,Fu,Fv,Fw,Fx,Fy,Fz,F0,F1,F2,F3,F4,.bool false,F6,F7,F8,F9,Ga,Gb,Gc,Gd,Ge,Gf,Gg,Gh,Gi,Gj,Gk,Gl,Gm,Gn,Gp,Gq,Gr,Gs,Gt,Gu,Gv,Gw,Gx,Gy,Gz,G0,G1,G2,G3,G4,G5,G6,G7,G8,G9,Ha,Hb,Hc,Hd,He,Hf,Hg,Hh,Hi,Hj,Hk,Hl,Hm,Hn,Ho,Hp,Hq,Hr,Hs,Ht,Hu,Hv,Hw,Hx,Hy,Hz,H0,H1,H2,H3,H4,H5,H6,H7,H8,H9,Ia,Ib,Ic,Ie,If,Ig,Ih,Ii,Ij,Ik,Il,Im,In,Io,Ip,Iq,Ir,Is,It,Iu,Iv,Iw,Ix,Iy,Iz,I0,I2,I3,I4,I5,I6,I7,I8,I9,Ja,Jb,Jc,Jd,Je,Jf,Jg,Jh,Ji,Jj,Jk,Jl,Jm,Jn,Jo,Jp,Jq,Jr,Js,Jt,Ju,Jv,Jw,Jx,Jy,Jz,J0,J1,J2,J3,J4,J5,J6,J7,J8,J9,Ka,Kb,Kc,Ke,Kf,Kg,Kh,Ki,Kj,Kk,Kl,Km,Kn,Ko,Kp,Kq,Kr,Ks,Kt,Ku,Kv,Kw,Kx,Ky,Kz,K0,K1,K3,K4,K5,K6,K7,K8,K9,La,Lb,Lc,Ld,Le,Lf,Lg,Lh,Li,Lj,Lk,Ll,Lm,Ln,Lo,Lp,Lq,Lr,Ls,Lt,Lu,Lv,Lw,Lx,Ly,Lz,L0,L1,L2,L3,L4,L5,L6,L7,L8,L9,Ma,Mb,Mc,Md,Me,Mf,Mg,Mh,Mi,Mj,Mk,Ml,Mm,Mn,Mo,Mp,Mq,Mr,Ms,Mt,Mu,Mv,Mw,Mx,My,Mz,M0,M1,M2,M3,M4,M5,M6,M7,M8,M9,Na,Nb,Nc,Nd,Nf,Ng,Nh,Ni,Nj,Nk,Nl,Nm,Nn,No,Np,Nq,Nr,Ns,Nt,Nu,Nv,Nw,Nx,Ny,Nz,N0,N1,N2,N3,N4,N5,N6,N7,N8,N9,Oa,Ob,Oc,Od,Oe,Of,Og,Oh,Oi,Oj,Ok,Ol,Om,On,Oo,Op,Oq,Os,Ot,Ou,Ov,Ow,Ox,Oy,Oz,O0,O1,O2,O3,O4,O5,O6,O7,O8,O9,Pa,Pb,Pc,Pd,Pe,Pf,Pg,Ph,Pi,Pj,Pk,Pl,Pm,Pn,Po,Pp,Pq],[]⟩ wr := by
  conv => arg 2; whnf
  have HKK := Aside0.mk hK
  clear hK
  go_wp2_with fail
  exact HKK.out ⟨(by repeat first|(with_reducible first|exact HB.out|apply below_alloc|apply pw_below_drewN|apply below_drew1)|exact HB.out)⟩
end Go.Proofs.Ytleacijhpkogpad.HBigU
